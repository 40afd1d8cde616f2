/- Texts of this proof, joined: BReg, BDraw, BAny, BSound, BFn, BTok, Laid, DT, Shelf, LItoa, LJoin, LCompare, LAtoi, Ext, Dp0, Dp1, Dp2, Dp3, Dp4. What each holds is said at its theorems. -/
import Derived.Test.YtppjenkjopjeiaaDoorGivenInQ2
import Derived.Orders
import Derived.Test.YtppjenkjopjeiaaDoorGivenInQ1
import GoSem.Claims
import Derived.Test.YtppjenkjopjeiaaDoorProg
import Derived.Lib.LaidTab
import Derived.Lib.ItoaNum
import Derived.Shelf.Strings.Builder1
import Derived.Shelf.Strings.Builder2
import Derived.Shelf.Strings.OnBuilder
import Derived.Shelf.Small.Strs
import Derived.Shelf.Strconv.Atoi
import Derived.Shelf.Strconv.Itoa0
import Derived.Shelf.Strconv.Itoa1
import Derived.Shelf.LaysM
import Derived.Shelf.Strconv.Itoa2
import Derived.Shelf.Strconv.Itoa3
import Derived.Shelf.Strconv.AtoiErrFast
import Derived.Shelf.Strconv.ParseIntEmpty
import Derived.Shelf.Strconv.AtoiFail
import Derived.Shelf.Strconv.Clone
import Derived.Shelf.Strconv.SyntaxError
import Derived.Shelf.LaysC
import Derived.Shelf.Strconv.ToError
import Derived.Shelf.Strconv.AtoiErr
import Derived.Shelf.Strconv.ErrVar
import Derived.Lib.AppendIntMem
import Derived.Lib.ItoaLen
import Derived.Lib.AtoiErrMem
set_option linter.unusedSimpArgs false
set_option linter.unusedVariables false
namespace Go.Proofs.YtppjenkjopjeiaaDoor
open Go.RowKit
section
variable {P : Program} {J : World → Prop} {JF : Nat → Prop} {W : Base} {U : Nat → Prop} {key : Nat} {st : St} {w w' : World} {a : Act} {tt : Nat → Option TI} {hs : FuncId → Nat} {Q : Exit → Act → World → Prop}
theorem put_tmps (a : Act) (d : Option Nat) (v : Value) : (a.put d v).tmps.size = a.tmps.size := by cases d <;> simp [Act.put]
theorem put_defers' (a : Act) (d : Option Nat) (v : Value) : (a.put d v).defers = a.defers := by cases d <;> simp [Act.put]
theorem put_inv {g g' : Gh} {d : Option Nat} {v : SV} {u : List (Nat × Ob)} {cv : Value} (hS : ∀ t, SVR g w (st.sl t) (a.tmps.getD t undef)) (hU : StU U st) (hdef : a.defers = []) (hh : ∀ v, W.hv = some v → a.tmps.getD 0 undef = v) (hd : ∀ t, d = some t → t < a.tmps.size ∧ (W.hv = none ∨ t ≠ 0))
    (h1 : HI W g' (updAll st.ob u) w') (h2 : SVR g' w' v cv) (h3 : ∀ x c, svU U x → SVR g w x c → SVR g' w' x c) (h4 : svU (Uk U key) v) (h5 : ∀ k, obU (Uk U key) (updAll st.ob u k)) (h6 : ∀ k, ¬ Uk U key k → updAll st.ob u k = .gone) :
    Inv W (Uk U key) ((st.put d v).app u) (a.put d cv) w' := by
  cases d with
  | none =>
    refine ⟨⟨g', h1, fun t => h3 _ _ (hU.sl t) (hS t)⟩, ⟨fun t => (hU.sl t).mono fun _ => .inl, h5, h6⟩, hdef, hh⟩
  | some d =>
    have hd' := (hd d rfl).1
    refine ⟨⟨g', h1, fun t => ?_⟩, ⟨fun t => ?_, h5, h6⟩, hdef, fun u hu => ?_⟩
    · show SVR g' w' (upd st.sl d v t) ((a.tmps.setIfInBounds d cv).getD t undef)
      by_cases ht : t = d
      · subst ht
        rw [upd_same]
        simpa [Array.getD_eq_getD_getElem?, Array.getElem?_setIfInBounds, hd'] using h2
      · rw [upd_ne _ _ ht]
        have : (a.tmps.setIfInBounds d cv).getD t undef = a.tmps.getD t undef := by
          simp [Array.getD_eq_getD_getElem?, Array.getElem?_setIfInBounds_ne (fun e : d = t => ht e.symm)]
        rw [this]
        exact h3 _ _ (hU.sl t) (hS t)
    · show svU (Uk U key) (upd st.sl d v t)
      by_cases ht : t = d
      · subst ht; rw [upd_same]; exact h4
      · rw [upd_ne _ _ ht]; exact (hU.sl t).mono fun _ => .inl
    · show (a.tmps.setIfInBounds d cv).getD 0 undef = u
      have hne : d ≠ 0 := by
        rcases (hd d rfl).2 with h | h
        · rw [h] at hu; simp at hu
        · exact h
      rw [← hh u hu]
      simp [Array.getD_eq_getD_getElem?, Array.getElem?_setIfInBounds_ne hne]
theorem clo_vals {g : Gh} {x : SV} {v : Value} {fc : FuncId × List CT} (hfc : cloOf x = some fc) (hs : SVR g w x v) : ∃ cs : List Value, v = .func (.func fc.1) #[] cs.toArray ∧ All2 (SVR g w) (fc.2.map capSV) cs := by
  unfold cloOf at hfc
  split at hfc
  · rename_i f es
    simp only [Option.some.injEq] at hfc
    subst hfc
    obtain ⟨y, hy, hs⟩ := hs
    simp at hy; subst hy
    obtain ⟨L, ⟨vs, h1, h2⟩, h3⟩ := hs
    refine ⟨vs, h1, ?_⟩
    have := h2.avr (g := g) h3
    have conv : ∀ (es : List CT) (vs : List Value), All2 (AVR g w) (es.map AV.c) vs → All2 (SVR g w) (es.map capSV) vs := by
      intro es
      induction es with
      | nil => intro vs h; cases vs with
        | nil => trivial
        | cons _ _ => exact h.elim
      | cons e es ih => intro vs h; cases vs with
        | nil => exact h.elim
        | cons v vs => exact ⟨⟨_, rfl, h.1⟩, ih vs h.2⟩
    exact conv _ _ this
  · rename_i f
    simp only [Option.some.injEq] at hfc
    subst hfc
    exact ⟨[], hs, trivial⟩
  · simp at hfc
theorem opS_sound (htt : MOk P J JF W tt) {o : Oper} {K : St → Prop} (h : opS tt (SC P J JF hs) key o K st) (hI : Inv W U st a w) (hkey : ∀ k, key ≤ k → k < key + 16 → ¬ U k) (hd : ∀ t, o.dst = some t → t < a.tmps.size ∧ (W.hv = none ∨ t ≠ 0)) :
    o.wp P a w (fun a' w' => ∃ st', Inv W (Uk U key) st' a' w' ∧ a'.tmps.size = a.tmps.size ∧ K st') Q := by
  obtain ⟨⟨g, hH, hS⟩, hU, hdef, hh⟩ := hI
  have evals : ∀ (args : Array Operand) (ts : Array TypeId), All2 (SVR g w) (evs tt st ts.toList args.toList) (args.toList.map a.eval) ∧ ∀ x ∈ evs tt st ts.toList args.toList, svU U x := fun args ts => by
    have he : args.toList.map a.eval = (zipT ts.toList args.toList).map fun p => a.eval p.2 := by
      have := congrArg (List.map a.eval) (zipT_snd ts.toList args.toList)
      rw [← this, List.map_map]; rfl
    refine ⟨?_, fun x mx => ?_⟩
    · rw [he]
      exact All2.of_map _ _ fun p _ => (ev_ok htt.tt hS hU p.1 p.2).1
    · obtain ⟨p, _, rfl⟩ := List.mem_map.1 mx
      exact (ev_ok htt.tt hS hU p.1 p.2).2
  have arm : ∀ (f : FuncId) (n : Nat) (vs : List SV) (cvs : List Value), spK (SC P J JF hs) f n key o.dst K st vs → All2 (SVR g w) vs cvs → (∀ x ∈ vs, svU U x) → (Callable P f → (execOp a.eval o).run P w = .ok (.enter f cvs.toArray) w) →
      o.wp P a w (fun a' w' => ∃ st', Inv W (Uk U key) st' a' w' ∧ a'.tmps.size = a.tmps.size ∧ K st') Q := fun f n vs cvs h hargs hargU hrun => by
    obtain ⟨v, u, hr, hK⟩ := spK_iff.1 h
    obtain ⟨hc, hcall⟩ := callR_sound htt hr hH hU hkey hargs hargU
    unfold Oper.wp
    rw [hrun hc, Oper.upon_enter]
    refine hcall.mono ?_
    rintro e w' ⟨cv, rfl, g', t1, t2, t3, t4, t5, t6⟩
    exact ⟨_, put_inv hS hU hdef hh hd t1 t2 t3 t4 t5 t6, put_tmps _ _ _, hK⟩
  unfold opS at h
  split at h
  · rename_i c hc
    obtain ⟨f, l1, l2⟩ := c
    have hop : ∃ args ts, o.op = .call ⟨.value (.func f), args, ts⟩ ∧ l1 = ts.toList ∧ l2 = args.toList := by
      unfold goCall at hc
      split at hc
      · rename_i f' args ts he
        simp only [Option.some.injEq, Prod.mk.injEq] at hc
        obtain ⟨rfl, rfl, rfl⟩ := hc
        exact ⟨args, ts, he, rfl, rfl⟩
      · simp at hc
    obtain ⟨args, ts, hop, rfl, rfl⟩ := hop
    refine arm f _ _ _ h (evals args ts).1 (evals args ts).2 ?_
    rintro ⟨fn, f1, f2, f3⟩
    have f2' : ¬ fn.name = "runtime.NumGoroutine" := by simpa using f2
    have f3' : ¬ fn.body = none := fun e => by rw [e] at f3; simp at f3
    have e1 : (args.toList.map a.eval).toArray = args.map a.eval := by
      apply Array.ext'
      simp
    rw [e1]
    simp [execOp, hop, resolve, Act.eval, Deferred.ofValue, invoke, callFunc, program, Sem.run, f1, f2', f3']
  · split at h
    · rename_i c hc
      obtain ⟨s, l1, l2⟩ := c
      have hop : ∃ args ts, o.op = .call ⟨.value (.tmp s), args, ts⟩ ∧ l1 = ts.toList ∧ l2 = args.toList := by
        unfold dynCall at hc
        split at hc
        · rename_i s' args ts he
          simp only [Option.some.injEq, Prod.mk.injEq] at hc
          obtain ⟨rfl, rfl, rfl⟩ := hc
          exact ⟨args, ts, he, rfl, rfl⟩
        · simp at hc
      obtain ⟨args, ts, hop, rfl, rfl⟩ := hop
      unfold optK at h
      split at h
      · rename_i fc hfc
        obtain ⟨_, h⟩ := h
        have hval := clo_vals hfc (hS s)
        obtain ⟨cs, hv', hcs⟩ := hval
        have hv : a.eval (.tmp s) = .func (.func fc.1) #[] cs.toArray := hv'
        refine arm fc.1 0 _ (args.toList.map a.eval ++ cs) h ((evals args ts).1.append hcs) (fun x mx => ?_) ?_
        · rcases List.mem_append.1 mx with m | m
          · exact (evals args ts).2 x m
          · obtain ⟨c, _, rfl⟩ := List.mem_map.1 m
            exact svU_c _
        · rintro ⟨fn, f1, f2, f3⟩
          have f2' : ¬ fn.name = "runtime.NumGoroutine" := by simpa using f2
          have f3' : ¬ fn.body = none := fun e => by rw [e] at f3; simp at f3
          have e1 : (args.toList.map a.eval ++ cs).toArray = args.map a.eval ++ cs.toArray := by
            apply Array.ext'
            simp
          rw [e1]
          simp [execOp, hop, resolve, hv, Deferred.ofValue, invoke, callFunc, program, Sem.run, f1, f2', f3']
      · exact h.elim
    · unfold optK at h
      split at h
      · rename_i r hr
        obtain ⟨g', cv, w', hrun, t1, t2, t3, t4, t5, t6⟩ := opE_sound (P := P) (W := W) (a := a) htt.tt o hr hH hS hU (hkey key (Nat.le_refl _) (by omega))
        unfold Oper.wp
        rcases hrun with hrun | ⟨hrun, rfl⟩
        · rw [hrun]
          exact ⟨_, put_inv hS hU hdef hh hd t1 t2 t3 t4 t5 t6, put_tmps _ _ _, h⟩
        · rw [hrun]
          exact ⟨_, put_inv hS hU hdef hh hd t1 t2 t3 t4 t5 t6, put_tmps _ _ _, h⟩
      · exact h.elim
theorem und_inv (hI : Inv W U st a w) (d : Option Nat) (hd : ∀ t, d = some t → t < a.tmps.size ∧ (W.hv = none ∨ t ≠ 0)) : Inv W (Uk U key) (st.put d .und) (a.put d undef) w := by
  obtain ⟨⟨g, hH, hS⟩, hU, hdef, hh⟩ := hI
  exact put_inv (u := []) (key := key) hS hU hdef hh hd hH rfl (fun _ _ _ h => h) trivial (fun k => (hU.ob k).mono fun _ => .inl) (fun k hk => hU.gone k fun h => hk (.inl h))
theorem opG_sound (htt : MOk P J JF W tt) {ops : Array Oper} {i : Nat} {o : Oper} {K : St → Prop} (ho : ops[i]? = some o) (h : opG tt (SC P J JF hs) ops.toList key o K st) (hI : Inv W U st a w) (hkey : ∀ k, key ≤ k → k < key + 16 → ¬ U k) (hd : ∀ t, o.dst = some t → t < a.tmps.size ∧ (W.hv = none ∨ t ≠ 0)) :
    wpOp P ops Q i (fun a' w' => ∃ st', Inv W (Uk U key) st' a' w' ∧ a'.tmps.size = a.tmps.size ∧ K st') a w := by
  have skip : K (st.put o.dst .und) → ∃ st', Inv W (Uk U key) st' (a.put o.dst undef) w ∧ (a.put o.dst undef).tmps.size = a.tmps.size ∧ K st' := fun hK => ⟨_, und_inv hI _ hd, put_tmps _ _ _, hK⟩
  unfold wpOp
  simp only [ho]
  unfold opG gslot at h
  cases hg : o.guard with
  | none =>
    rw [hg] at h
    rw [if_pos (by simp [Region.wanted, hg])]
    exact .inl (opS_sound htt h hI hkey hd)
  | some jw =>
    obtain ⟨j, want⟩ := jw
    rw [hg] at h
    simp only at h
    cases hj : (ops.toList[j]?).bind (·.dst) with
    | none =>
      rw [hj] at h
      have hj' : (ops[j]?).bind (·.dst) = none := by simpa using hj
      rw [if_neg (by simp [Region.wanted, hg, yielded, hj'])]
      exact skip h
    | some t =>
      rw [hj] at h
      have hj' : (ops[j]?).bind (·.dst) = some t := by simpa using hj
      obtain ⟨⟨g, hH, hS⟩, hU, hdef, hh⟩ := hI
      have hst := hS t
      simp only at h
      unfold gK at h
      split at h
      · rename_i hb
        have : ∃ b, st.sl t = .p false [.c (.bool b)] := by
          unfold isBool at hb
          split at hb
          · rename_i b he; exact ⟨b, he⟩
          · simp at hb
        obtain ⟨b, hb'⟩ := this
        rw [hb'] at hst h
        have hv := bool_of hst
        have hy : yielded ops a.tmps j = some b := by
          unfold yielded
          rw [hj', Option.bind_some]
          have : a.tmps[t]? = some (.bool b) := by
            rw [Array.getD_eq_getD_getElem?] at hv
            cases he : a.tmps[t]? with
            | none => rw [he] at hv; simp [undef] at hv
            | some q => rw [he] at hv; simpa using hv
          rw [this]
        by_cases hw : (b == want) = true
        · rw [if_pos (show (getBool (.p false [.c (.bool b)]) == want) = true from hw)] at h
          rw [if_pos (by simpa [Region.wanted, hg, hy] using hw)]
          exact .inl (opS_sound htt h ⟨⟨g, hH, hS⟩, hU, hdef, hh⟩ hkey hd)
        · rw [if_neg (show ¬ (getBool (.p false [.c (.bool b)]) == want) = true from hw)] at h
          rw [if_neg (by simpa [Region.wanted, hg, hy] using hw)]
          exact skip h
      · split at h
        · rename_i hu
          have hb' : st.sl t = .und := by
            unfold isUnd at hu
            split at hu
            · rename_i he; exact he
            · simp at hu
          rw [hb'] at hst
          have hst' : a.tmps.getD t undef = undef := hst
          have hy : yielded ops a.tmps j = none := by
            unfold yielded
            rw [hj', Option.bind_some]
            rw [Array.getD_eq_getD_getElem?] at hst'
            cases he : a.tmps[t]? with
            | none => rfl
            | some q => rw [he] at hst'; simp at hst'; rw [hst']; rfl
          rw [if_neg (by simp [Region.wanted, hg, hy])]
          exact skip h
        · exact h.elim
/-- a region in the order of its text -/
theorem ops_sound (htt : MOk P J JF W tt) {ops : Array Oper} {N : Nat} (hN : ∀ o ∈ ops.toList, ∀ t, o.dst = some t → t < N ∧ (W.hv = none ∨ t ≠ 0)) {K : St → Prop} : ∀ (r : List Oper) (i key : Nat) (U : Nat → Prop) (st : St) (a : Act) (w : World), ops.toList.drop i = r → opsS tt (SC P J JF hs) ops.toList key r K st → Inv W U st a w → (∀ k, key ≤ k → ¬ U k) → a.tmps.size = N →
    (∀ U' st' a' w', Inv W U' st' a' w' → (∀ k, key + 16 * r.length ≤ k → ¬ U' k) → a'.tmps.size = N → K st' → Q .normal a' w') → wpOps P ops Q (List.range' i r.length) a w
  | [], i, key, U, st, a, w, _, h, hI, hk, hs, hQ => hQ U st a w hI (by simpa using hk) hs h
  | o :: r, i, key, U, st, a, w, hr, h, hI, hk, hs, hQ => by
    have hi : ops.toList[i]? = some o := by
      have := congrArg (fun l => l[0]?) hr
      simpa using this
    have hr' : ops.toList.drop (i + 1) = r := by
      have := congrArg List.tail hr
      simpa using this
    rw [List.length_cons, List.range'_succ, wpOps_cons]
    refine wpOp_mono ?_ (opG_sound htt (by simpa using hi) h hI (fun k a _ => hk k a) (fun t ht => by rw [hs]; exact hN o (List.mem_of_getElem? hi) t ht))
    rintro a' w' ⟨st', hI', hs', hK'⟩
    refine ops_sound htt hN r (i + 1) (key + 16) _ st' a' w' hr' hK' hI' (fun k hk' hU => ?_) (by omega) (fun U' st2 a2 w2 h1 h2 h3 h4 => hQ U' st2 a2 w2 h1 (fun k hk' => h2 k (by simp at hk'; omega)) h3 h4)
    rcases hU with hU | hU
    · exact hk k (by omega) hU
    · omega
end
end Go.Proofs.YtppjenkjopjeiaaDoor

namespace Go.Proofs.YtppjenkjopjeiaaDoor
open Go.RowKit
/-- 0: looks at slots alone; 1: looks at rows and boxes, or makes one; 2: looks at how far rows are the call's own, too; 3: takes rows up; 4: changes them -/
def flatTI : Option TI → Bool
  | some (.slice _ _ _ z) => z.all avFlat
  | _ => false
def cls (tt : Nat → Option TI) (hs : FuncId → Nat) : Op → Nat
  | .move _ => 0
  | .assign _ => 0
  | .pick _ _ _ => 0
  | .build _ _ => 0
  | .nilCheck _ => 0
  | .binOp _ _ _ _ _ => 0
  | .unOp _ _ _ => 0
  | .convert _ t _ => if isStr (tt t) = true then 1 else 0
  | .slice t _ _ _ _ => if isStr (tt t) = true then 0 else 4
  | .fieldAddr _ _ _ => 0
  | .field _ _ _ => 0
  | .index _ _ _ => 0
  | .extract _ _ => 0
  | .alloc _ => 1
  | .box _ _ => 1
  | .load _ _ => 1
  | .makeMap _ _ => 1
  | .lookup _ _ _ _ => 1
  | .makeSlice _ _ _ => 1
  | .indexAddr _ _ _ => 1
  | .buildSlice t _ ps => if ps.size = 0 ∨ flatTI (tt t) = true then 2 else 3
  | .call ⟨.builtin .len, _, _⟩ => 1
  | .call ⟨.builtin .max, _, _⟩ => 0
  | .call ⟨.builtin .min, _, _⟩ => 0
  | .call ⟨.value (.func f), _, _⟩ => if hs f = 0 then 1 else 4
  | _ => 4
section
variable {P : Program} {W : Base} {U : Nat → Prop} {key : Nat} {st st' : St} {w w' : World} {a : Act} {tt : Nat → Option TI} {S : Ctx} {Q : Exit → Act → World → Prop}
def opRS (tt : Nat → Option TI) (S : Ctx) (key : Nat) (o : Oper) (st : St) (v : SV) (u : List (Nat × Ob)) : Prop :=
  match goCall o.op with
  | some c => callR S c.1 (S.hd c.1) key st (evs tt st c.2.1 c.2.2) v u
  | none => match dynCall o.op with
    | some c => ∃ fc, cloOf (st.sl c.1) = some fc ∧ S.hd fc.1 = 0 ∧ callR S fc.1 0 key st (evs tt st c.2.1 c.2.2 ++ fc.2.map capSV) v u
    | none => opE tt key o st = some (v, u)
def opR (tt : Nat → Option TI) (S : Ctx) (all : List Oper) (key : Nat) (o : Oper) (st : St) (v : SV) (u : List (Nat × Ob)) : Prop :=
  match gslot all o with
  | none => opRS tt S key o st v u
  | some (none, _) => v = .und ∧ u = []
  | some (some t, want) => gK (st.sl t) want (opRS tt S key o st v u) (v = .und ∧ u = [])
theorem opS_iff {o : Oper} {K : St → Prop} : opS tt S key o K st ↔ ∃ v u, opRS tt S key o st v u ∧ K ((st.put o.dst v).app u) := by
  cases hc : goCall o.op with
  | some c =>
    simp only [opS, opRS, hc]
    exact spK_iff
  | none =>
    simp only [opS, opRS, hc]
    cases hd : dynCall o.op with
    | some c =>
      simp only
      constructor
      · intro h
        unfold optK at h
        split at h
        · rename_i fc hfc
          obtain ⟨h0, h⟩ := h
          obtain ⟨v, u, h1, h2⟩ := spK_iff.1 h
          exact ⟨v, u, ⟨fc, hfc, h0, h1⟩, h2⟩
        · exact h.elim
      · rintro ⟨v, u, ⟨fc, hfc, h0, h1⟩, h2⟩
        rw [hfc]
        exact ⟨h0, spK_iff.2 ⟨v, u, h1, h2⟩⟩
    | none =>
      simp only
      constructor
      · intro h
        unfold optK at h
        split at h
        · rename_i r hr
          exact ⟨r.1, r.2, hr, h⟩
        · exact h.elim
      · rintro ⟨v, u, h1, h2⟩
        rw [h1]
        exact h2
theorem opG_iff {all : List Oper} {o : Oper} {K : St → Prop} : opG tt S all key o K st ↔ ∃ v u, opR tt S all key o st v u ∧ K ((st.put o.dst v).app u) := by
  have skip : K (st.put o.dst .und) ↔ ∃ v u, (v = SV.und ∧ u = []) ∧ K ((st.put o.dst v).app u) := by
    constructor
    · intro h; exact ⟨.und, [], ⟨rfl, rfl⟩, h⟩
    · rintro ⟨v, u, ⟨rfl, rfl⟩, h⟩; exact h
  cases hg : gslot all o with
  | none => simp only [opG, opR, hg]; exact opS_iff
  | some q =>
    obtain ⟨q, want⟩ := q
    cases q with
    | none => simp only [opG, opR, hg]; exact skip
    | some t =>
      simp only [opG, opR, hg, gK]
      by_cases h1 : isBool (st.sl t) = true
      · by_cases h2 : (getBool (st.sl t) == want) = true
        · simp only [h1, h2, if_true]; exact opS_iff
        · simp only [h1, h2, if_true, if_false]; exact skip
      · by_cases h2 : isUnd (st.sl t) = true
        · simp only [h1, h2, if_true, if_false]; exact skip
        · simp only [h1, h2, if_false]; simp
theorem evs_same {ts : List TypeId} {xs : List Operand} (h : ∀ x ∈ xs, ∀ t, st.ev tt t x = st'.ev tt t x) : evs tt st ts xs = evs tt st' ts xs := by
  unfold evs
  refine List.map_congr_left fun p hp => h p.2 ?_ p.1
  rw [← zipT_snd ts xs]
  exact List.mem_map.2 ⟨p, hp, rfl⟩
/-- the same, or only read from then on -/
def Wk (st st' : St) (U : Nat → Prop) : Prop := ∀ k, U k → st'.ob k = st.ob k ∨ st'.ob k = frzOb (st.ob k)
theorem Wk.of (h : ∀ k, U k → st.ob k = st'.ob k) : Wk st st' U := fun k hk => .inl (h k hk).symm
theorem avArgs_same (hob : Wk st st' U) : ∀ {xs : List AV}, avsU U xs → avArgs st xs = avArgs st' xs
  | [], _ => rfl
  | x :: r, h => by
    have hx : avArg st x = avArg st' x := by
      cases x with
      | row k =>
        simp only [avArg]
        rcases hob k (h (.row k) (by simp)) with e | e
        · rw [e]
        · rw [e]; cases st.ob k <;> rfl
      | _ => rfl
    have hr := avArgs_same hob (xs := r) (fun y m => h y (by simp [m]))
    simp only [avArgs, hx, hr]
theorem svArgs_same (hob : Wk st st' U) : ∀ {xs : List SV}, (∀ x ∈ xs, svU U x) → svArgs st xs = svArgs st' xs
  | [], _ => rfl
  | x :: r, h => by
    have hx : svArg st x = svArg st' x := by
      cases x with
      | p ag cs => simp only [svArg, avArgs_same hob (h (.p ag cs) (by simp))]
      | _ => rfl
    have hr := svArgs_same hob (xs := r) (fun y m => h y (by simp [m]))
    simp only [svArgs, hx, hr]
theorem loadV_same (hob : Wk st st' U) {t : Option TI} {x : SV} (hx : svU U x) : loadV st t x = loadV st' t x := by
  cases x with
  | bp k off =>
    simp only [loadV]
    rcases hob k hx with e | e
    · rw [e]
    · rw [e]; cases st.ob k <;> rfl
  | rp k m i off =>
    simp only [loadV]
    rcases hob k hx with e | e
    · rw [e]
    · rw [e]; cases st.ob k <;> rfl
  | p ag cs => cases ag with
    | true => rfl
    | false => cases cs with
      | nil => rfl
      | cons y r => cases r <;> cases y <;> first | rfl | (rename_i z; cases z <;> rfl) | (rename_i z _ _; cases z <;> rfl)
  | _ => rfl
theorem lenV_same (hob : Wk st st' U) {t : Option TI} {x : SV} (hx : svU U x) : lenV st t x = lenV st' t x := by
  unfold lenV
  split <;> try rfl
  rename_i k
  rcases hob k (hx (.row k) (by simp)) with e | e
  · rw [e]
  · rw [e]; cases st.ob k <;> rfl
theorem idxAddr_same (hob : Wk st st' U) {m : Nat} {x i : SV} (hx : svU U x) : idxAddr st m x i = idxAddr st' m x i := by
  unfold idxAddr
  split <;> try rfl
  rename_i k _ _
  rcases hob k (hx (.row k) (by simp)) with e | e
  · rw [e]
  · rw [e]; cases st.ob k <;> rfl
theorem capV_same (hob : st.ob = st'.ob) (x : SV) : capV st x = capV st' x := by
  unfold capV
  rw [hob]
theorem capsV_same (hob : st.ob = st'.ob) : ∀ xs : List SV, capsV st xs = capsV st' xs
  | [] => rfl
  | x :: r => by simp only [capsV, capV_same hob x, capsV_same hob r]
theorem lookV_same (hob : Wk st st' U) {t : Option TI} {x i : SV} {ok : Bool} (hx : svU U x) : lookV st t x i ok = lookV st' t x i ok := by
  unfold lookV
  split <;> try rfl
  rename_i k
  rcases hob k (hx (.row k) (by simp)) with e | e
  · rw [e]
  · rw [e]; cases st.ob k <;> rfl
theorem strOf_same (hob : Wk st st' U) {x : SV} (hx : svU U x) : strOf st x = strOf st' x := by
  unfold strOf
  split <;> try rfl
  rename_i k
  rcases hob k (hx (.row k) (by simp)) with e | e
  · rw [e]
  · rw [e]; cases st.ob k <;> rfl
theorem convO_same (hob : Wk st st' U) {s t : Nat} {x : SV} (hx : svU U x) : convO tt st s t x = convO tt st' s t x := by
  unfold convO
  rw [strOf_same hob hx]
/-- other slots -/
theorem opE_slots {o : Oper} {sl sl' : Nat → SV} {ob : Nat → Ob} {n n' : Nat} (hl : ∀ x ∈ o.op.operands, ∀ t, St.ev tt ⟨sl, ob, n⟩ t x = St.ev tt ⟨sl', ob, n'⟩ t x) : opE tt key o ⟨sl, ob, n⟩ = opE tt key o ⟨sl', ob, n'⟩ := by
  obtain ⟨dst, op, ty, pos, af, gd⟩ := o
  cases op with
  | build t parts =>
    have hp : ∀ fs z, parts.toList.map (partS tt ⟨sl, ob, n⟩ fs z) = parts.toList.map (partS tt ⟨sl', ob, n'⟩ fs z) := fun fs z => List.map_congr_left fun p hp => by
      have := hl p.2 (by simp [Op.operands]; exact ⟨p.1, by simpa using hp⟩) 0
      unfold partS
      split
      · rfl
      · rw [this]
    simp only [opE, hp]
  | buildSlice t len parts =>
    have hp : ∀ e, (parts.toList.map fun p => St.ev tt ⟨sl, ob, n⟩ e p.2) = parts.toList.map fun p => St.ev tt ⟨sl', ob, n'⟩ e p.2 := fun e => List.map_congr_left fun p hp => hl p.2 (by simp [Op.operands]; exact ⟨p.1, by simpa using hp⟩) e
    have he : ∀ m l, elemsS ⟨sl, ob, n⟩ m l = elemsS ⟨sl', ob, n'⟩ m l := fun m l => by
      have h1 : ∀ x, avT ⟨sl, ob, n⟩ x = avT ⟨sl', ob, n'⟩ x := fun x => by cases x <;> rfl
      have h2 : ∀ xs, avTs ⟨sl, ob, n⟩ xs = avTs ⟨sl', ob, n'⟩ xs := fun xs => by
        induction xs with
        | nil => rfl
        | cons x xs ih => simp only [avTs, h1, ih]
      induction l with
      | nil => rfl
      | cons x xs ih => cases x <;> simp only [elemsS, h2, ih]
    have hz : ∀ ks, frzAll ⟨sl, ob, n⟩ ks = frzAll ⟨sl', ob, n'⟩ ks := fun ks => by
      induction ks with
      | nil => rfl
      | cons k r ih => simp only [frzAll, ih]
    simp only [opE, hp, he, hz]
  | slice t x lo hi mx =>
    simp only [Op.operands] at hl
    cases mx with
    | some _ => rfl
    | none =>
      have hx := fun t => hl x (by simp) t
      cases lo with
      | none => cases hi with
        | none => simp only [opE, hx, Option.map_none]; rfl
        | some h => have hh := fun t => hl h (by simp) t; simp only [opE, hx, hh, Option.map_none, Option.map_some]; rfl
      | some l =>
        have hlo := fun t => hl l (by simp) t
        cases hi with
        | none => simp only [opE, hx, hlo, Option.map_none, Option.map_some]; rfl
        | some h => have hh := fun t => hl h (by simp) t; simp only [opE, hx, hlo, hh, Option.map_some]; rfl
  | call c =>
    obtain ⟨callee, args, ts⟩ := c
    cases callee with
    | builtin b =>
      have := evs_same (tt := tt) (st := ⟨sl, ob, n⟩) (st' := ⟨sl', ob, n'⟩) (ts := ts.toList) (xs := args.toList) (fun x m t => hl x (by simp [Op.operands, Call.operands]; simpa using m) t)
      simp only [opE, this]
      unfold bltV
      split <;> rfl
    | value f => rfl
    | invoke r m => rfl
  | move x => have := fun t => hl x (by simp [Op.operands]) t; simp only [opE, this]
  | assign x => have := fun t => hl x (by simp [Op.operands]) t; simp only [opE, this]
  | pick c x y => have h1 := fun t => hl c (by simp [Op.operands]) t; have h2 := fun t => hl x (by simp [Op.operands]) t; have h3 := fun t => hl y (by simp [Op.operands]) t; simp only [opE, h1, h2, h3]
  | alloc t => rfl
  | box t x => have := fun t => hl x (by simp [Op.operands]) t; simp only [opE, this]
  | load t x => have := fun t => hl x (by simp [Op.operands]) t; simp only [opE, this]; rfl
  | store t x v => have h1 := fun t => hl x (by simp [Op.operands]) t; have h2 := fun t => hl v (by simp [Op.operands]) t; simp only [opE, h1, h2]; rfl
  | nilCheck x => have := fun t => hl x (by simp [Op.operands]) t; simp only [opE, this]
  | binOp op t x y t' => have h1 := fun t => hl x (by simp [Op.operands]) t; have h2 := fun t => hl y (by simp [Op.operands]) t; simp only [opE, h1, h2]
  | unOp op t x => have := fun t => hl x (by simp [Op.operands]) t; simp only [opE, this]
  | convert s t x => have := fun t => hl x (by simp [Op.operands]) t; simp only [opE, this]; rfl
  | makeFunc fn first caps =>
    cases fn with
    | func f =>
      have hc : caps.toList.map (St.ev tt ⟨sl, ob, n⟩ 0) = caps.toList.map (St.ev tt ⟨sl', ob, n'⟩ 0) := List.map_congr_left fun x hx => hl x (by simp [Op.operands]; exact .inr (by simpa using hx)) 0
      simp only [opE, hc, capsV_same (st := ⟨sl, ob, n⟩) (st' := ⟨sl', ob, n'⟩) rfl]
    | _ => rfl
  | makeMap t r => cases r <;> rfl
  | lookup t x i ok => have h1 := fun t => hl x (by simp [Op.operands]) t; have h2 := fun t => hl i (by simp [Op.operands]) t; simp only [opE, h1, h2]; rfl
  | mapUpdate t x i v => have h1 := fun t => hl x (by simp [Op.operands]) t; have h2 := fun t => hl i (by simp [Op.operands]) t; have h3 := fun t => hl v (by simp [Op.operands]) t; simp only [opE, h1, h2, h3]; rfl
  | makeSlice t x y => have h1 := fun t => hl x (by simp [Op.operands]) t; have h2 := fun t => hl y (by simp [Op.operands]) t; simp only [opE, h1, h2]
  | fieldAddr t x f => have := fun t => hl x (by simp [Op.operands]) t; simp only [opE, this]
  | field t x f => have := fun t => hl x (by simp [Op.operands]) t; simp only [opE, this]
  | indexAddr t x y => have h1 := fun t => hl x (by simp [Op.operands]) t; have h2 := fun t => hl y (by simp [Op.operands]) t; simp only [opE, h1, h2]; rfl
  | index t x y => have h1 := fun t => hl x (by simp [Op.operands]) t; have h2 := fun t => hl y (by simp [Op.operands]) t; simp only [opE, h1, h2]
  | extract x i => have := fun t => hl x (by simp [Op.operands]) t; simp only [opE, this]
  | _ => rfl
theorem ev_ob (sl : Nat → SV) (ob ob' : Nat → Ob) (n n' t : Nat) (x : Operand) : St.ev tt ⟨sl, ob, n⟩ t x = St.ev tt ⟨sl, ob', n'⟩ t x := by cases x <;> rfl
/-- other rows and boxes -/
theorem avT_same {st st' : St} (h : ∀ k, U k → st.ob k = st'.ob k) {x : AV} (hx : avU U x) : avT st x = avT st' x := by
  cases x with
  | row k => simp only [avT]; rw [h k hx]
  | c x => cases x <;> rfl
  | nil e m => rfl
  | dead => rfl
theorem avTs_same {st st' : St} (h : ∀ k, U k → st.ob k = st'.ob k) : ∀ {xs : List AV}, avsU U xs → avTs st xs = avTs st' xs
  | [], _ => rfl
  | x :: r, hx => by simp only [avTs]; rw [avT_same h (hx x (by simp)), avTs_same h fun y m => hx y (by simp [m])]
theorem elemsS_same {st st' : St} {m : Nat} (h : ∀ k, U k → st.ob k = st'.ob k) : ∀ {xs : List SV}, (∀ v ∈ xs, svU U v) → elemsS st m xs = elemsS st' m xs
  | [], _ => rfl
  | .p a cs :: r, hx => by
    simp only [elemsS]
    rw [avTs_same h (hx (.p a cs) (by simp)), elemsS_same h fun v mv => hx v (by simp [mv])]
  | .any :: r, _ => rfl
  | .und :: r, _ => rfl
  | .tup _ :: r, _ => rfl
  | .bp _ _ :: r, _ => rfl
  | .rp _ _ _ _ :: r, _ => rfl
  | .ep _ _ :: r, _ => rfl
  | .fn _ :: r, _ => rfl
theorem avT_keysU {x : AV} {ct : CT} {ks : List Nat} {d : Nat} (h : avT st x = some (ct, ks, d)) (hx : avU U x) : ∀ k ∈ ks, U k := by
  intro k mk
  cases x with
  | c y => cases y <;> simp only [avT, Option.some.injEq, Prod.mk.injEq] at h <;> (rw [← h.2.1] at mk; simp at mk)
  | nil e m =>
    simp only [avT] at h
    split at h <;> simp only [Option.some.injEq, Prod.mk.injEq, reduceCtorEq] at h
    rw [← h.2.1] at mk; simp at mk
  | row j =>
    simp only [avT] at h
    split at h
    · split at h <;> simp only [Option.some.injEq, Prod.mk.injEq] at h
      · rw [← h.2.1] at mk; simp at mk
      · rw [← h.2.1] at mk; simp at mk; subst mk; exact hx
    · simp at h
  | dead => simp [avT] at h
theorem avTs_keysU : ∀ {xs : List AV} {cts : List CT} {ks : List Nat} {d : Nat}, avTs st xs = some (cts, ks, d) → avsU U xs → ∀ k ∈ ks, U k
  | [], _, _, _, h, _, k, mk => by simp only [avTs, Option.some.injEq, Prod.mk.injEq] at h; rw [← h.2.1] at mk; simp at mk
  | x :: r, _, _, _, h, hu, k, mk => by
    simp only [avTs] at h
    obtain ⟨⟨c1, k1, d1⟩, h1, h⟩ := Option.bind_eq_some_iff.1 h
    obtain ⟨⟨c2, k2, d2⟩, h2, h⟩ := Option.map_eq_some_iff.1 h
    simp only [Prod.mk.injEq] at h
    rw [← h.2.1] at mk
    rcases List.mem_append.1 mk with mk | mk
    · exact avT_keysU h1 (hu x (by simp)) k mk
    · exact avTs_keysU h2 (fun y my => hu y (by simp [my])) k mk
theorem elemsS_keysU {m : Nat} : ∀ {xs : List SV} {es : List (List CT)} {ks : List Nat} {d : Nat}, elemsS st m xs = some (es, ks, d) → (∀ v ∈ xs, svU U v) → ∀ k ∈ ks, U k
  | [], _, _, _, h, _, k, mk => by simp only [elemsS, Option.some.injEq, Prod.mk.injEq] at h; rw [← h.2.1] at mk; simp at mk
  | x :: r, _, _, _, h, hu, k, mk => by
    cases x with
    | p a cs =>
      simp only [elemsS] at h
      split at h
      · obtain ⟨⟨c1, k1, d1⟩, h1, h⟩ := Option.bind_eq_some_iff.1 h
        obtain ⟨⟨c2, k2, d2⟩, h2, h⟩ := Option.map_eq_some_iff.1 h
        simp only [Prod.mk.injEq] at h
        rw [← h.2.1] at mk
        rcases List.mem_append.1 mk with mk | mk
        · exact avTs_keysU h1 (hu (.p a cs) (by simp)) k mk
        · exact elemsS_keysU h2 (fun v mv => hu v (by simp [mv])) k mk
      · simp at h
    | _ => simp [elemsS] at h
theorem frzAll_same {st st' : St} {ks : List Nat} (h : ∀ k ∈ ks, st.ob k = st'.ob k) : frzAll st ks = frzAll st' ks := by
  induction ks with
  | nil => rfl
  | cons k r ih => simp only [frzAll, h k (by simp), ih fun j mj => h j (by simp [mj])]
theorem frzAll_mem {ks : List Nat} {p : Nat × Ob} (h : p ∈ frzAll st ks) : p.1 ∈ ks ∧ p.2 = frzOb (st.ob p.1) := by
  induction ks with
  | nil => simp [frzAll] at h
  | cons k r ih =>
    simp only [frzAll, List.mem_cons] at h
    rcases h with rfl | h
    · exact ⟨by simp, rfl⟩
    · exact ⟨by simp [(ih h).1], (ih h).2⟩
theorem opE_obs {hs : FuncId → Nat} {o : Oper} {sl : Nat → SV} {ob ob' : Nat → Ob} {n n' : Nat} (h : cls tt hs o.op = 0 ∨ (cls tt hs o.op ≤ 3 ∧ (∀ k, U k → ob k = ob' k) ∧ ∀ t x, svU U (St.ev tt ⟨sl, ob, n⟩ t x)) ∨ (cls tt hs o.op ≤ 1 ∧ Wk ⟨sl, ob, n⟩ ⟨sl, ob', n'⟩ U ∧ ∀ t x, svU U (St.ev tt ⟨sl, ob, n⟩ t x))) : opE tt key o ⟨sl, ob, n⟩ = opE tt key o ⟨sl, ob', n'⟩ := by
  have he := fun t x => ev_ob (tt := tt) sl ob ob' n n' t x
  have hle : cls tt hs o.op ≤ 3 := by rcases h with h | h | h <;> omega
  have hwk : cls tt hs o.op = 0 ∨ (Wk ⟨sl, ob, n⟩ ⟨sl, ob', n'⟩ U ∧ ∀ t x, svU U (St.ev tt ⟨sl, ob', n'⟩ t x)) := by
    rcases h with h | h | h
    · exact .inl h
    · exact .inr ⟨fun k hk => .inl (h.2.1 k hk).symm, fun t x => he t x ▸ h.2.2 t x⟩
    · exact .inr ⟨h.2.1, fun t x => he t x ▸ h.2.2 t x⟩
  obtain ⟨dst, op, ty, pos, af, gd⟩ := o
  cases op with
  | build t parts =>
    have hp : ∀ fs z, parts.toList.map (partS tt ⟨sl, ob, n⟩ fs z) = parts.toList.map (partS tt ⟨sl, ob', n'⟩ fs z) := fun fs z => List.map_congr_left fun p hp => by
      unfold partS
      split
      · rfl
      · rw [he]
    simp only [opE, hp]
  | buildSlice t len parts =>
    have hc : 2 ≤ cls tt hs (.buildSlice t len parts) := by simp only [cls]; split <;> omega
    have h' : (∀ k, U k → ob k = ob' k) ∧ ∀ t x, svU U (St.ev tt ⟨sl, ob, n⟩ t x) := by
      rcases h with h | h | h
      · simp only at h; omega
      · exact h.2
      · simp only at h; omega
    obtain ⟨h1, h2⟩ := h'
    simp only [opE, he]
    split
    · rename_i e m _ z _
      have hu : ∀ v ∈ parts.toList.map (fun p => St.ev tt ⟨sl, ob', n'⟩ e p.2), svU U v := fun v mv => by obtain ⟨p, _, rfl⟩ := List.mem_map.1 mv; rw [← he]; exact h2 _ _
      rw [elemsS_same (U := U) (st := ⟨sl, ob, n⟩) (st' := ⟨sl, ob', n'⟩) h1 hu]
      cases hel : elemsS ⟨sl, ob', n'⟩ m (parts.toList.map fun p => St.ev tt ⟨sl, ob', n'⟩ e p.2) with
      | none => rfl
      | some a =>
        have hk := elemsS_keysU (U := U) hel hu
        have := frzAll_same (st := ⟨sl, ob, n⟩) (st' := ⟨sl, ob', n'⟩) (ks := a.2.1) (fun k mk => h1 k (hk k mk))
        simp only [Option.bind_some, this]
    · rfl
  | load t x =>
    obtain ⟨h1, h2⟩ := hwk.resolve_left (by simp [cls])
    simp only [opE, he]
    rw [loadV_same (U := U) (st := ⟨sl, ob, n⟩) (st' := ⟨sl, ob', n'⟩) h1 (h2 0 x)]
  | indexAddr t x y =>
    obtain ⟨h1, h2⟩ := hwk.resolve_left (by simp [cls])
    simp only [opE, he]
    split
    · rw [idxAddr_same (U := U) (st := ⟨sl, ob, n⟩) (st' := ⟨sl, ob', n'⟩) h1 (h2 0 x)]
    · rfl
  | call c =>
    obtain ⟨callee, args, ts⟩ := c
    cases callee with
    | builtin b =>
      have hev : evs tt ⟨sl, ob, n⟩ ts.toList args.toList = evs tt ⟨sl, ob', n'⟩ ts.toList args.toList := evs_same fun x _ t => he t x
      simp only [opE, hev]
      unfold bltV
      split
      · rename_i t _ v he1 he2
        obtain ⟨h1, h2⟩ := hwk.resolve_left (by simp [cls])
        have hu : svU U v := by
          have hm : v ∈ evs tt ⟨sl, ob', n'⟩ ts.toList args.toList := by simp [he2]
          obtain ⟨p, _, rfl⟩ := List.mem_map.1 hm
          exact h2 _ _
        rw [lenV_same (U := U) (st := ⟨sl, ob, n⟩) (st' := ⟨sl, ob', n'⟩) h1 hu]
      · simp [cls] at hle
      · rfl
      · rfl
      · rfl
    | value f => rfl
    | invoke r m => rfl
  | store t x v => simp [cls] at hle
  | makeFunc fn first caps => simp [cls] at hle
  | mapUpdate t x i v => simp [cls] at hle
  | makeMap t r => cases r <;> rfl
  | lookup t x i ok =>
    obtain ⟨h1, h2⟩ := hwk.resolve_left (by simp [cls])
    simp only [opE, he]
    rw [lookV_same (U := U) (st := ⟨sl, ob, n⟩) (st' := ⟨sl, ob', n'⟩) h1 (h2 0 x)]
  | convert s t x =>
    simp only [opE, he]
    by_cases hst : isStr (tt t) = true
    · obtain ⟨h1, h2⟩ := hwk.resolve_left (by simp [cls, hst])
      rw [convO_same (U := U) (st := ⟨sl, ob, n⟩) (st' := ⟨sl, ob', n'⟩) h1 (h2 0 x)]
    · have e : ∀ st : St, convO tt st s t (St.ev tt ⟨sl, ob', n'⟩ 0 x) = convV (tt s) (tt t) (St.ev tt ⟨sl, ob', n'⟩ 0 x) := fun st => by
        unfold convO
        rw [if_neg (by simp [hst])]
      rw [e, e]
  | slice t x lo hi mx =>
    cases mx with
    | some _ => rfl
    | none =>
      have hstr : isStr (tt t) = true := by
        simp only [cls] at hle
        split at hle
        · assumption
        · omega
      have hns : isSlice (tt t) = false := by
        unfold isStr at hstr
        split at hstr
        · rename_i e; rw [e]; rfl
        · simp at hstr
      have hu : ∀ l h v, sliceU ⟨sl, ob, n⟩ key (tt t) l h v = sliceU ⟨sl, ob', n'⟩ key (tt t) l h v := fun l h v => by
        unfold sliceU
        split
        · simp [hns]
        · rfl
        · rfl
      cases lo <;> cases hi <;> simp only [opE, he, Option.map_none, Option.map_some, hu]
  | _ => first | rfl | simp only [opE, he]
theorem bindCs_keys : ∀ (cts : List (Bool × CT)) (key : Nat), key ≤ (bindCs key cts).2.2 ∧ ∀ p ∈ (bindCs key cts).2.1, key ≤ p.1 ∧ p.1 < (bindCs key cts).2.2
  | [], key => by simp [bindCs]
  | (true, x) :: r, key => bindCs_keys r key
  | (false, ct) :: r, key => by
    cases ct with
    | sl e m xs =>
      obtain ⟨h1, h2⟩ := bindCs_keys r (key + 1)
      refine ⟨by simp only [bindCs]; omega, fun p hp => ?_⟩
      simp only [bindCs, List.mem_cons] at hp ⊢
      rcases hp with rfl | hp
      · exact ⟨Nat.le_refl _, by simp only; omega⟩
      · have := h2 p hp; omega
    | int k n => exact bindCs_keys r key
    | bool b => exact bindCs_keys r key
    | str s => exact bindCs_keys r key
    | ifc s => exact bindCs_keys r key
    | pt s => exact bindCs_keys r key
    | fn f s => exact bindCs_keys r key
    | mp a b s => exact bindCs_keys r key
theorem bindRs_keys : ∀ (res : List RT) (key : Nat), key ≤ (bindRs key res).2.2 ∧ ∀ p ∈ (bindRs key res).2.1, key ≤ p.1 ∧ p.1 < (bindRs key res).2.2
  | [], key => by simp [bindRs]
  | x :: r, key => by
    obtain ⟨h1, h2⟩ := bindCs_keys x.2 key
    obtain ⟨h3, h4⟩ := bindRs_keys r (bindCs key x.2).2.2
    refine ⟨by simp only [bindRs]; omega, fun p hp => ?_⟩
    simp only [bindRs, List.mem_append] at hp ⊢
    rcases hp with hp | hp
    · have := h2 p hp; omega
    · have := h4 p hp; omega
theorem pure1_nil {v : Option SV} {r : SV × List (Nat × Ob)} (h : pure1 v = some r) : r.2 = [] := by
  obtain ⟨u, _, rfl⟩ := Option.map_eq_some_iff.1 h; rfl
theorem opE_keys {hs : FuncId → Nat} {o : Oper} {r : SV × List (Nat × Ob)} (hU : ∀ t x, svU U (st.ev tt t x)) (h : opE tt key o st = some r) : (cls tt hs o.op = 0 → r.2 = []) ∧ (cls tt hs o.op ≤ 2 → ∀ p ∈ r.2, key ≤ p.1 ∧ p.1 < key + 16) ∧ (cls tt hs o.op ≤ 3 → ∀ p ∈ r.2, (key ≤ p.1 ∧ p.1 < key + 16) ∨ (U p.1 ∧ p.2 = frzOb (st.ob p.1))) := by
  have nil : r.2 = [] → (cls tt hs o.op = 0 → r.2 = []) ∧ (cls tt hs o.op ≤ 2 → ∀ p ∈ r.2, key ≤ p.1 ∧ p.1 < key + 16) ∧ (cls tt hs o.op ≤ 3 → ∀ p ∈ r.2, (key ≤ p.1 ∧ p.1 < key + 16) ∨ (U p.1 ∧ p.2 = frzOb (st.ob p.1))) := fun e => ⟨fun _ => e, fun _ p hp => by simp [e] at hp, fun _ p hp => by simp [e] at hp⟩
  obtain ⟨dst, op, ty, pos, af, gd⟩ := o
  cases op with
  | move x => simp only [opE, Option.some.injEq] at h; exact nil (by rw [← h])
  | assign x => simp only [opE, Option.some.injEq] at h; exact nil (by rw [← h])
  | pick c x y =>
    simp only [opE] at h
    split at h
    · simp only [Option.some.injEq] at h; exact nil (by rw [← h])
    · simp at h
  | alloc t =>
    simp only [opE] at h
    obtain ⟨z, _, rfl⟩ := Option.map_eq_some_iff.1 h
    exact ⟨fun e => by simp [cls] at e, fun _ p hp => by simp at hp; subst hp; simp, fun _ p hp => by simp at hp; subst hp; simp⟩
  | box t x =>
    simp only [opE] at h
    split at h
    · simp only [Option.some.injEq] at h
      subst h
      exact ⟨fun e => by simp [cls] at e, fun _ p hp => by simp at hp; subst hp; simp, fun _ p hp => by simp at hp; subst hp; simp⟩
    · simp at h
  | build t parts =>
    simp only [opE] at h
    split at h
    · obtain ⟨cs, _, rfl⟩ := Option.map_eq_some_iff.1 h; exact nil rfl
    · simp at h
  | buildSlice t len parts =>
    simp only [opE] at h
    split at h
    · obtain ⟨⟨xs, ks, d⟩, h1, h⟩ := Option.bind_eq_some_iff.1 h
      split at h
      · simp only [Option.some.injEq] at h
        subst h
        rename_i e0 _ _ z hti hcond
        have hu : ∀ v ∈ parts.toList.map (fun p => st.ev tt e0 p.2), svU U v := fun v mv => by obtain ⟨p, _, rfl⟩ := List.mem_map.1 mv; exact hU _ _
        have hk := elemsS_keysU (U := U) h1 hu
        refine ⟨fun e => by simp only [cls] at e; split at e <;> simp at e, fun e p hp => ?_, fun e p hp => ?_⟩
        · by_cases hs : parts.size = 0
          · have : parts = #[] := by simpa using hs
            subst this
            simp [elemsS] at h1
            obtain ⟨_, rfl, _⟩ := h1
            simp [frzAll] at hp; subst hp; simp
          · by_cases hf : flatTI (tt t) = true
            · have hz : z.all avFlat = true := by rw [hti] at hf; exact hf
              have hks : ks = [] := by
                have h3 := hcond.2.2.2
                rw [hz] at h3
                simpa using h3
              subst hks
              simp [frzAll] at hp; subst hp; simp
            · simp [cls, hs, hf] at e
        · rcases List.mem_append.1 hp with hp | hp
          · obtain ⟨p1, p2⟩ := frzAll_mem hp
            exact .inr ⟨hk _ p1, p2⟩
          · simp at hp; subst hp; simp
      · simp at h
    · simp at h
  | load t x => exact nil (pure1_nil h)
  | store t x v => exact ⟨fun e => by simp [cls] at e, fun e => by simp [cls] at e, fun e => by simp [cls] at e⟩
  | makeFunc fn first caps => exact ⟨fun e => by simp [cls] at e, fun e => by simp [cls] at e, fun e => by simp [cls] at e⟩
  | mapUpdate t x i v => exact ⟨fun e => by simp [cls] at e, fun e => by simp [cls] at e, fun e => by simp [cls] at e⟩
  | lookup t x i ok => exact nil (pure1_nil h)
  | makeMap t r =>
    cases r with
    | none =>
      simp only [opE, mkMap] at h
      split at h
      · simp only [Option.some.injEq] at h
        subst h
        exact ⟨fun e => by simp [cls] at e, fun _ p hp => by simp at hp; subst hp; simp, fun _ p hp => by simp at hp; subst hp; simp⟩
      · simp at h
    | some _ => simp [opE] at h
  | nilCheck x =>
    simp only [opE] at h
    split at h <;> simp only [Option.some.injEq, reduceCtorEq] at h <;> exact nil (by rw [← h])
  | binOp op t x y t' => exact nil (pure1_nil h)
  | unOp op t x => exact nil (pure1_nil h)
  | convert s t x => exact nil (pure1_nil h)
  | makeSlice t n c =>
    simp only [opE, makeV] at h
    split at h
    · split at h
      · obtain ⟨ze, _, h⟩ := Option.bind_eq_some_iff.1 h
        split at h
        · simp only [Option.some.injEq] at h
          subst h
          exact ⟨fun e => by simp [cls] at e, fun _ p hp => by simp at hp; subst hp; simp, fun _ p hp => by simp at hp; subst hp; simp⟩
        · simp at h
      · simp at h
    · simp at h
  | slice t x lo hi mx =>
    cases mx with
    | some _ => simp [opE] at h
    | none =>
      by_cases hstr : isStr (tt t) = true
      · have hns : isSlice (tt t) = false := by
          unfold isStr at hstr
          split at hstr
          · rename_i e; rw [e]; rfl
          · simp at hstr
        refine nil ?_
        simp only [opE, sliceU] at h
        split at h
        · simp [hns] at h
        · obtain ⟨v, _, rfl⟩ := Option.map_eq_some_iff.1 h; rfl
        · simp at h
      · exact ⟨fun e => by simp [cls, hstr] at e, fun e => by simp [cls, hstr] at e, fun e => by simp [cls, hstr] at e⟩
  | fieldAddr t x f =>
    simp only [opE] at h
    split at h
    · exact nil (pure1_nil h)
    · simp at h
  | field t x f =>
    simp only [opE] at h
    split at h
    · exact nil (pure1_nil h)
    · simp at h
  | indexAddr t x i =>
    simp only [opE] at h
    split at h
    · exact nil (pure1_nil h)
    · simp at h
  | index t x i => exact nil (pure1_nil h)
  | extract x i => exact nil (pure1_nil h)
  | call c =>
    obtain ⟨callee, args, ts⟩ := c
    cases callee with
    | builtin b =>
      simp only [opE, bltV] at h
      split at h
      · exact nil (pure1_nil h)
      · exact ⟨fun e => by simp [cls] at e, fun e => by simp [cls] at e, fun e => by simp [cls] at e⟩
      · exact nil (pure1_nil h)
      · exact nil (pure1_nil h)
      · simp at h
    | value f => simp [opE] at h
    | invoke r m => simp [opE] at h
  | _ => simp [opE] at h
theorem goCall_cls {hs : FuncId → Nat} {o : Op} {c : FuncId × List TypeId × List Operand} (h : goCall o = some c) : cls tt hs o = if hs c.1 = 0 then 1 else 4 := by
  unfold goCall at h
  split at h
  · simp only [Option.some.injEq] at h; rw [← h]; rfl
  · simp at h
theorem dynCall_op {o : Op} {c : Nat × List TypeId × List Operand} (h : dynCall o = some c) : ∃ args ts, o = .call ⟨.value (.tmp c.1), args, ts⟩ ∧ c.2.1 = ts.toList ∧ c.2.2 = args.toList := by
  unfold dynCall at h
  split at h
  · rename_i s args ts
    simp only [Option.some.injEq] at h
    rw [← h]
    exact ⟨args, ts, rfl, rfl, rfl⟩
  · simp at h
theorem dynCall_cls {hs : FuncId → Nat} {o : Op} {c : Nat × List TypeId × List Operand} (h : dynCall o = some c) : cls tt hs o = 4 := by
  obtain ⟨args, ts, rfl, _⟩ := dynCall_op h
  rfl
theorem opR_keys (hU : ∀ t x, svU U (st.ev tt t x)) {all : List Oper} {o : Oper} {v : SV} {u : List (Nat × Ob)} (h : opR tt S all key o st v u) : (cls tt S.hd o.op = 0 → u = []) ∧ (cls tt S.hd o.op ≤ 2 → ∀ p ∈ u, key ≤ p.1 ∧ p.1 < key + 16) ∧ (cls tt S.hd o.op ≤ 3 → ∀ p ∈ u, (key ≤ p.1 ∧ p.1 < key + 16) ∨ (U p.1 ∧ p.2 = frzOb (st.ob p.1))) := by
  have nil : u = [] → (cls tt S.hd o.op = 0 → u = []) ∧ (cls tt S.hd o.op ≤ 2 → ∀ p ∈ u, key ≤ p.1 ∧ p.1 < key + 16) ∧ (cls tt S.hd o.op ≤ 3 → ∀ p ∈ u, (key ≤ p.1 ∧ p.1 < key + 16) ∨ (U p.1 ∧ p.2 = frzOb (st.ob p.1))) := fun e => ⟨fun _ => e, fun _ p hp => by simp [e] at hp, fun _ p hp => by simp [e] at hp⟩
  have hRS : opRS tt S key o st v u → (cls tt S.hd o.op = 0 → u = []) ∧ (cls tt S.hd o.op ≤ 2 → ∀ p ∈ u, key ≤ p.1 ∧ p.1 < key + 16) ∧ (cls tt S.hd o.op ≤ 3 → ∀ p ∈ u, (key ≤ p.1 ∧ p.1 < key + 16) ∨ (U p.1 ∧ p.2 = frzOb (st.ob p.1))) := fun h => by
    unfold opRS at h
    split at h
    · rename_i c hc
      by_cases h0 : S.hd c.1 = 0
      · rw [h0] at h
        obtain ⟨l, res, _, _, _, h3, _, rfl⟩ := h
        have hp : ∀ p ∈ (bindRs key res).2.1, key ≤ p.1 ∧ p.1 < key + 16 := fun p hp => by
          have := (bindRs_keys res key).2 p hp
          omega
        exact ⟨fun e => by rw [goCall_cls hc, if_pos h0] at e; simp at e, fun _ => hp, fun _ p m => .inl (hp p m)⟩
      · refine ⟨fun e => by rw [goCall_cls hc, if_neg h0] at e; simp at e, fun e => by rw [goCall_cls hc, if_neg h0] at e; simp at e, fun e => by rw [goCall_cls hc, if_neg h0] at e; simp at e⟩
    · split at h
      · rename_i c hc
        have h4 := dynCall_cls (tt := tt) (hs := S.hd) hc
        exact ⟨fun e => by rw [h4] at e; simp at e, fun e => by rw [h4] at e; simp at e, fun e => by rw [h4] at e; simp at e⟩
      · exact opE_keys hU h
  unfold opR at h
  split at h
  · exact hRS h
  · exact nil h.2
  · unfold gK at h
    split at h
    · split at h
      · exact hRS h
      · exact nil h.2
    · split at h
      · exact nil h.2
      · exact h.elim
theorem frzAll_ob (h : st.ob = st'.ob) : ∀ ks : List Nat, frzAll st ks = frzAll st' ks
  | [] => rfl
  | k :: r => by simp only [frzAll, frzAll_ob h r, h]
theorem svAny (s : SV) : svU (fun _ => True) s := by
  cases s <;> first | trivial | (intro y my; cases y <;> trivial) | (intro y my z mz; cases z <;> trivial)
theorem handOf_ob (h : st.ob = st'.ob) (v : SV) : handOf st v = handOf st' v := by
  have ha : ∀ cs, avArgs st cs = avArgs st' cs := fun cs => avArgs_same (U := fun _ => True) (fun k _ => .inl (by rw [h])) (fun x _ => by cases x <;> trivial)
  unfold handOf
  split
  · rw [h]
    split
    · rw [ha]
    · rfl
  · rw [h]
  · rfl
theorem callR_ob (h : st.ob = st'.ob) {f : FuncId} {n : Nat} {vs : List SV} {v : SV} {u : List (Nat × Ob)} : callR S f n key st vs v u ↔ callR S f n key st' vs v u := by
  have hs : ∀ xs, svArgs st xs = svArgs st' xs := fun xs => svArgs_same (U := fun _ => True) (fun k _ => .inl (by rw [h])) (fun x _ => svAny x)
  unfold callR
  split
  · simp only [hs]
  · simp only [hs, handOf_ob h, frzAll_ob h]
  · simp only [hs, frzAll_ob h]
  · simp only [hs, frzAll_ob h]
theorem opRS_same {o : Oper} {v : SV} {u : List (Nat × Ob)} (hl : ∀ x ∈ o.op.operands, ∀ t, st.ev tt t x = st'.ev tt t x)
    (hob : cls tt S.hd o.op = 0 ∨ st.ob = st'.ob ∨ (∀ t x, svU U (st.ev tt t x)) ∧ ((cls tt S.hd o.op ≤ 3 ∧ ∀ k, U k → st.ob k = st'.ob k) ∨ (cls tt S.hd o.op ≤ 1 ∧ Wk st st' U))) : opRS tt S key o st v u ↔ opRS tt S key o st' v u := by
  cases hc : goCall o.op with
  | some c =>
    simp only [opRS, hc]
    have hop : ∃ args ts, o.op = .call ⟨.value (.func c.1), args, ts⟩ ∧ c.2.1 = ts.toList ∧ c.2.2 = args.toList := by
      unfold goCall at hc
      split at hc
      · rename_i f args ts he
        simp only [Option.some.injEq] at hc
        rw [← hc]
        exact ⟨args, ts, he, rfl, rfl⟩
      · simp at hc
    obtain ⟨args, ts, ho, e1, e2⟩ := hop
    have hev : evs tt st c.2.1 c.2.2 = evs tt st' c.2.1 c.2.2 := evs_same fun x m t => hl x (by rw [ho]; rw [e2] at m; simp [Op.operands, Call.operands]; exact .inr (by simpa using m)) t
    rw [← hev]
    rcases hob with hc0 | hob | ⟨hu, hob⟩
    · rw [goCall_cls hc] at hc0
      split at hc0 <;> simp at hc0
    · exact callR_ob hob
    · have hc1 : cls tt S.hd o.op ≤ 3 := by rcases hob with h | h <;> omega
      have hwk : Wk st st' U := by
        rcases hob with h | h
        · exact .of h.2
        · exact h.2
      have h0 : S.hd c.1 = 0 := by
        rw [goCall_cls hc] at hc1
        split at hc1
        · assumption
        · simp at hc1
      have hsv : svArgs st (evs tt st c.2.1 c.2.2) = svArgs st' (evs tt st c.2.1 c.2.2) := svArgs_same (U := U) hwk (fun x hx => by
          obtain ⟨p, _, rfl⟩ := List.mem_map.1 hx
          exact hu _ _)
      rw [h0]
      simp only [callR, hsv]
  | none =>
    simp only [opRS, hc]
    have : opE tt key o st = opE tt key o st' := by
      obtain ⟨sl, ob, n⟩ := st
      obtain ⟨sl', ob', n'⟩ := st'
      have s1 : opE tt key o ⟨sl', ob', n'⟩ = opE tt key o ⟨sl, ob', n⟩ := opE_slots fun x m t => by
        rw [← hl x m t]; exact ev_ob _ _ _ _ _ _ _
      rw [s1]
      rcases hob with hc | hob | ⟨hu, ⟨hc, hob⟩ | ⟨hc, hob⟩⟩
      · exact opE_obs (U := U) (.inl hc)
      · simp only at hob; subst hob; rfl
      · exact opE_obs (U := U) (.inr (.inl ⟨hc, hob, hu⟩))
      · exact opE_obs (U := U) (.inr (.inr ⟨hc, hob, hu⟩))
    cases hd : dynCall o.op with
    | none => simp only [this]
    | some c =>
      simp only
      obtain ⟨args, ts, ho, e1, e2⟩ := dynCall_op hd
      have hev : evs tt st c.2.1 c.2.2 = evs tt st' c.2.1 c.2.2 := evs_same fun x m t => hl x (by rw [ho]; rw [e2] at m; simp [Op.operands, Call.operands]; exact .inr (by simpa using m)) t
      have hsl : st.sl c.1 = st'.sl c.1 := hl (.tmp c.1) (by rw [ho]; simp [Op.operands, Call.operands]) 0
      have h4 := dynCall_cls (tt := tt) (hs := S.hd) hd
      rcases hob with h0 | h0 | ⟨_, ⟨h0, _⟩ | ⟨h0, _⟩⟩
      · omega
      · rw [hev, hsl]
        constructor
        · rintro ⟨fc, f1, f2, f3⟩; exact ⟨fc, f1, f2, (callR_ob h0).1 f3⟩
        · rintro ⟨fc, f1, f2, f3⟩; exact ⟨fc, f1, f2, (callR_ob h0).2 f3⟩
      · omega
      · omega
/-- a state that differs in a slot that is not looked at, and in rows and boxes that do not matter -/
theorem opR_same {ops : Array Oper} {o : Oper} {v : SV} {u : List (Nat × Ob)} (hl : ∀ s ∈ o.looksAt ops, st.sl s = st'.sl s)
    (hob : cls tt S.hd o.op = 0 ∨ st.ob = st'.ob ∨ (∀ t x, svU U (st.ev tt t x)) ∧ ((cls tt S.hd o.op ≤ 3 ∧ ∀ k, U k → st.ob k = st'.ob k) ∨ (cls tt S.hd o.op ≤ 1 ∧ Wk st st' U))) : opR tt S ops.toList key o st v u ↔ opR tt S ops.toList key o st' v u := by
  have hl' : ∀ x ∈ o.op.operands, ∀ t, st.ev tt t x = st'.ev tt t x := fun x m t => by
    cases x with
    | tmp s => exact hl s (by
        unfold Oper.looksAt
        refine List.mem_append.2 (.inl (List.mem_filterMap.2 ⟨.tmp s, by simpa using m, rfl⟩)))
    | _ => rfl
  have h1 := opRS_same (S := S) (key := key) (v := v) (u := u) hl' hob
  unfold opR
  cases hg : gslot ops.toList o with
  | none => exact h1
  | some q =>
    obtain ⟨q, want⟩ := q
    cases q with
    | none => rfl
    | some t =>
      have ht : st.sl t = st'.sl t := hl t (by
        unfold gslot at hg
        split at hg
        · simp at hg
        · rename_i g hgd
          simp only [Option.some.injEq, Prod.mk.injEq] at hg
          unfold Oper.looksAt
          refine List.mem_append.2 (.inr ?_)
          rw [hgd]
          have : (ops[g.1]?).bind (·.dst) = some t := by simpa using hg.1
          simp [this])
      simp only [gK, ht, h1]
theorem ev_U (hU : StU U st) (t : Nat) (x : Operand) : svU U (st.ev tt t x) := by
  cases x with
  | tmp s => exact hU.sl s
  | const v =>
    show svU U (cvT (tt t) v)
    unfold cvT
    split
    · exact svU_c _
    · exact svU_c _
    · split
      · exact svU_c _
      · trivial
    · split
      · intro y m; simp at m; subst m; trivial
      · trivial
    · trivial
  | global _ => trivial
  | func _ => trivial
theorem updAll_out : ∀ {u : List (Nat × Ob)} {ob : Nat → Ob} {k : Nat}, (∀ p ∈ u, p.1 ≠ k) → updAll ob u k = ob k
  | [], _, _, _ => rfl
  | p :: r, ob, k, h => by
    rw [updAll, updAll_out fun q m => h q (by simp [m])]
    exact upd_ne _ _ fun e => h p (by simp) e.symm
theorem updAll_in : ∀ {u : List (Nat × Ob)} {ob ob' : Nat → Ob} {k : Nat}, (∃ p ∈ u, p.1 = k) → updAll ob u k = updAll ob' u k
  | [], _, _, _, h => by simp at h
  | p :: r, ob, ob', k, h => by
    rw [updAll, updAll]
    by_cases hr : ∃ q ∈ r, q.1 = k
    · exact updAll_in hr
    · have hn : ∀ q ∈ r, q.1 ≠ k := fun q m e => hr ⟨q, m, e⟩
      rw [updAll_out hn, updAll_out hn]
      obtain ⟨q, mq, e⟩ := h
      rcases List.mem_cons.1 mq with rfl | mq
      · rw [← e, upd_same, upd_same]
      · exact absurd e (hn q mq)
theorem updAll_comm {u1 u2 : List (Nat × Ob)} {ob : Nat → Ob} (h : ∀ p ∈ u1, ∀ q ∈ u2, p.1 ≠ q.1) : updAll (updAll ob u1) u2 = updAll (updAll ob u2) u1 := by
  funext k
  by_cases h1 : ∃ p ∈ u1, p.1 = k
  · obtain ⟨p, mp, rfl⟩ := h1
    rw [updAll_out fun q mq e => h p mp q mq e.symm]
    exact updAll_in ⟨p, mp, rfl⟩
  · have hn : ∀ q ∈ u1, q.1 ≠ k := fun q m e => h1 ⟨q, m, e⟩
    rw [updAll_out (ob := updAll ob u2) hn]
    by_cases h2 : ∃ p ∈ u2, p.1 = k
    · exact updAll_in h2
    · have hn2 : ∀ q ∈ u2, q.1 ≠ k := fun q m e => h2 ⟨q, m, e⟩
      rw [updAll_out hn2, updAll_out hn2, updAll_out hn]
theorem put_look (st : St) (d : Option Nat) (v : SV) (s : Nat) (h : ∀ t, d = some t → s ≠ t) : (st.put d v).sl s = st.sl s := by
  cases d with
  | none => rfl
  | some t => exact upd_ne _ _ (h t rfl)
theorem put_ob (st : St) (d : Option Nat) (v : SV) : (st.put d v).ob = st.ob := by cases d <;> rfl
theorem put_n (st : St) (d : Option Nat) (v : SV) : (st.put d v).n = st.n := by cases d <;> rfl
theorem put_comm' (st : St) (d e : Option Nat) (v u : SV) (h : ∀ t, d = some t → e ≠ some t) : ((st.put d v).put e u).sl = ((st.put e u).put d v).sl := by
  cases d with
  | none => rfl
  | some t => cases e with
    | none => rfl
    | some s =>
      have hne : t ≠ s := fun e => h t rfl (e ▸ rfl)
      funext k
      show upd (upd st.sl t v) s u k = upd (upd st.sl s u) t v k
      unfold upd
      by_cases h1 : k = s
      · by_cases h2 : k = t
        · exact absurd (h2.symm.trans h1) hne
        · have hst : ¬ s = t := fun e => hne e.symm
          simp [h1, hst]
      · simp [h1]
def clsOk (tt : Nat → Option TI) (hs : FuncId → Nat) (x y : Op) : Bool := cls tt hs x == 0 || cls tt hs y == 0 || (Nat.ble (cls tt hs x) 2 && Nat.ble (cls tt hs y) 2) || (Nat.ble (cls tt hs x) 1 && Nat.ble (cls tt hs y) 3) || (Nat.ble (cls tt hs x) 3 && Nat.ble (cls tt hs y) 1)
theorem comm {ops : Array Oper} {oi oj : Oper} {ki kj : Nat} {vi vj : SV} {ui uj : List (Nat × Ob)} (hap : oi.apart ops oj = true) (hc : clsOk tt S.hd oi.op oj.op = true) (hU : StU U st) (hki : ∀ k, ki ≤ k → k < ki + 16 → ¬ U k) (hkj : ∀ k, kj ≤ k → k < kj + 16 → ¬ U k) (hdis : ki + 16 ≤ kj ∨ kj + 16 ≤ ki)
    (h : opR tt S ops.toList ki oi st vi ui) (h' : opR tt S ops.toList kj oj ((st.put oi.dst vi).app ui) vj uj) :
    opR tt S ops.toList kj oj st vj uj ∧ opR tt S ops.toList ki oi ((st.put oj.dst vj).app uj) vi ui ∧ ((((st.put oi.dst vi).app ui).put oj.dst vj).app uj) = ((((st.put oj.dst vj).app uj).put oi.dst vi).app ui) := by
  obtain ⟨a1, a2, a3⟩ := Oper.apart_spec hap
  have hev : ∀ t x, svU U (st.ev tt t x) := fun t x => ev_U hU t x
  obtain ⟨i1, i2, i3⟩ := opR_keys (U := U) hev h
  have hcl : cls tt S.hd oi.op = 0 ∨ cls tt S.hd oj.op = 0 ∨ (cls tt S.hd oi.op ≤ 2 ∧ cls tt S.hd oj.op ≤ 2) ∨ (cls tt S.hd oi.op ≤ 1 ∧ cls tt S.hd oj.op ≤ 3) ∨ (cls tt S.hd oi.op ≤ 3 ∧ cls tt S.hd oj.op ≤ 1) := by
    unfold clsOk at hc
    simp only [Bool.or_eq_true, beq_iff_eq, Bool.and_eq_true] at hc
    rcases hc with (((hc | hc) | hc) | hc) | hc
    · exact .inl hc
    · exact .inr (.inl hc)
    · exact .inr (.inr (.inl ⟨Nat.le_of_ble_eq_true hc.1, Nat.le_of_ble_eq_true hc.2⟩))
    · exact .inr (.inr (.inr (.inl ⟨Nat.le_of_ble_eq_true hc.1, Nat.le_of_ble_eq_true hc.2⟩)))
    · exact .inr (.inr (.inr (.inr ⟨Nat.le_of_ble_eq_true hc.1, Nat.le_of_ble_eq_true hc.2⟩)))
  have agree : ∀ {u : List (Nat × Ob)} {q : Nat}, (∀ p ∈ u, q ≤ p.1 ∧ p.1 < q + 16) → (∀ k, q ≤ k → k < q + 16 → ¬ U k) → ∀ k, U k → st.ob k = updAll st.ob u k := fun hu hq k hk => (updAll_out fun p mp e => hq p.1 (hu p mp).1 (hu p mp).2 (e ▸ hk)).symm
  have weak : ∀ {u : List (Nat × Ob)} {q : Nat}, (∀ p ∈ u, (q ≤ p.1 ∧ p.1 < q + 16) ∨ (U p.1 ∧ p.2 = frzOb (st.ob p.1))) → (∀ k, q ≤ k → k < q + 16 → ¬ U k) → ∀ k, U k → updAll st.ob u k = st.ob k ∨ updAll st.ob u k = frzOb (st.ob k) := fun {u q} hu hq k hk => by
    have gen : ∀ (u : List (Nat × Ob)) (ob : Nat → Ob), (∀ p ∈ u, (q ≤ p.1 ∧ p.1 < q + 16) ∨ (U p.1 ∧ p.2 = frzOb (st.ob p.1))) → (ob k = st.ob k ∨ ob k = frzOb (st.ob k)) → (updAll ob u k = st.ob k ∨ updAll ob u k = frzOb (st.ob k)) := by
      intro u
      induction u with
      | nil => intro ob _ h; exact h
      | cons p u ih =>
        intro ob hp h
        refine ih _ (fun x mx => hp x (by simp [mx])) ?_
        by_cases hpk : k = p.1
        · rcases hp p (by simp) with h1 | h1
          · exact absurd (hpk ▸ hk) (hq p.1 h1.1 h1.2)
          · right; rw [hpk, upd_same]; exact h1.2
        · rw [upd_ne _ _ hpk]; exact h
    exact gen u st.ob hu (.inl rfl)
  have hA : opR tt S ops.toList kj oj st vj uj := by
    refine (opR_same (U := U) (st := st) (st' := (st.put oi.dst vi).app ui) (fun s ms => (put_look st oi.dst vi s fun t ht e => a1 t ht (e ▸ ms)).symm) ?_).2 h'
    show cls tt S.hd oj.op = 0 ∨ st.ob = updAll (st.put oi.dst vi).ob ui ∨ _ ∧ ((cls tt S.hd oj.op ≤ 3 ∧ ∀ k, U k → st.ob k = updAll (st.put oi.dst vi).ob ui k) ∨ (cls tt S.hd oj.op ≤ 1 ∧ ∀ k, U k → updAll (st.put oi.dst vi).ob ui k = st.ob k ∨ updAll (st.put oi.dst vi).ob ui k = frzOb (st.ob k)))
    rw [put_ob]
    rcases hcl with hcl | hcl | ⟨c1, c2⟩ | ⟨c1, c2⟩ | ⟨c1, c2⟩
    · right; left; rw [i1 hcl]; rfl
    · left; exact hcl
    · right; right; exact ⟨hev, .inl ⟨by omega, agree (i2 c1) hki⟩⟩
    · right; right; exact ⟨hev, .inl ⟨c2, agree (i2 (by omega)) hki⟩⟩
    · right; right; exact ⟨hev, .inr ⟨c2, weak (i3 c1) hki⟩⟩
  obtain ⟨j1', j2', j3'⟩ := opR_keys (U := U) hev hA
  refine ⟨hA, ?_, ?_⟩
  · refine (opR_same (U := U) (st := st) (st' := (st.put oj.dst vj).app uj) (fun s ms => (put_look st oj.dst vj s fun t ht e => a3 t ht (e ▸ ms)).symm) ?_).1 h
    show cls tt S.hd oi.op = 0 ∨ st.ob = updAll (st.put oj.dst vj).ob uj ∨ _ ∧ ((cls tt S.hd oi.op ≤ 3 ∧ ∀ k, U k → st.ob k = updAll (st.put oj.dst vj).ob uj k) ∨ (cls tt S.hd oi.op ≤ 1 ∧ ∀ k, U k → updAll (st.put oj.dst vj).ob uj k = st.ob k ∨ updAll (st.put oj.dst vj).ob uj k = frzOb (st.ob k)))
    rw [put_ob]
    rcases hcl with hcl | hcl | ⟨c1, c2⟩ | ⟨c1, c2⟩ | ⟨c1, c2⟩
    · left; exact hcl
    · right; left; rw [j1' hcl]; rfl
    · right; right; exact ⟨hev, .inl ⟨by omega, agree (j2' c2) hkj⟩⟩
    · right; right; exact ⟨hev, .inr ⟨c1, weak (j3' c2) hkj⟩⟩
    · right; right; exact ⟨hev, .inl ⟨c1, agree (j2' (by omega)) hkj⟩⟩
  · have hsl : ((((st.put oi.dst vi).app ui).put oj.dst vj).app uj).sl = ((((st.put oj.dst vj).app uj).put oi.dst vi).app ui).sl := by
      have e1 : ∀ (s : St) (u : List (Nat × Ob)) (d : Option Nat) (v : SV), ((s.app u).put d v).sl = (s.put d v).sl := fun s u d v => by cases d <;> rfl
      show (((st.put oi.dst vi).app ui).put oj.dst vj).sl = (((st.put oj.dst vj).app uj).put oi.dst vi).sl
      rw [e1, e1]
      exact put_comm' st _ _ _ _ fun t ht => a2 t ht
    have hobs : ((((st.put oi.dst vi).app ui).put oj.dst vj).app uj).ob = ((((st.put oj.dst vj).app uj).put oi.dst vi).app ui).ob := by
      show updAll (((st.put oi.dst vi).app ui).put oj.dst vj).ob uj = updAll (((st.put oj.dst vj).app uj).put oi.dst vi).ob ui
      rw [put_ob, put_ob]
      show updAll (updAll (st.put oi.dst vi).ob ui) uj = updAll (updAll (st.put oj.dst vj).ob uj) ui
      rw [put_ob, put_ob]
      rcases hcl with hcl | hcl | ⟨c1, c2⟩ | ⟨c1, c2⟩ | ⟨c1, c2⟩
      · rw [i1 hcl]; rfl
      · rw [j1' hcl]; rfl
      · refine updAll_comm fun p mp q mq e => ?_
        have := i2 c1 p mp
        have := j2' c2 q mq
        omega
      · refine updAll_comm fun p mp q mq e => ?_
        have h1 := i2 (by omega) p mp
        rcases j3' c2 q mq with h2 | h2
        · omega
        · exact hki p.1 h1.1 h1.2 (e ▸ h2.1)
      · refine updAll_comm fun p mp q mq e => ?_
        have h1 := j2' (by omega) q mq
        rcases i3 c1 p mp with h2 | h2
        · omega
        · exact hkj q.1 h1.1 h1.2 (e ▸ h2.1)
    have hn : ((((st.put oi.dst vi).app ui).put oj.dst vj).app uj).n = ((((st.put oj.dst vj).app uj).put oi.dst vi).app ui).n := by
      show (((st.put oi.dst vi).app ui).put oj.dst vj).n = (((st.put oj.dst vj).app uj).put oi.dst vi).n
      rw [put_n, put_n]
      show (st.put oi.dst vi).n = (st.put oj.dst vj).n
      rw [put_n, put_n]
    generalize ((((st.put oi.dst vi).app ui).put oj.dst vj).app uj) = s1 at hsl hobs hn ⊢
    generalize ((((st.put oj.dst vj).app uj).put oi.dst vi).app ui) = s2 at hsl hobs hn ⊢
    cases s1; cases s2
    simp only at hsl hobs hn
    subst hsl hobs hn
    rfl
end
end Go.Proofs.YtppjenkjopjeiaaDoor

namespace Go.Proofs.YtppjenkjopjeiaaDoor
open Go.RowKit
section
variable {P : Program} {J : World → Prop} {JF : Nat → Prop} {W : Base} {U : Nat → Prop} {key : Nat} {st st' : St} {w w' : World} {a : Act} {tt : Nat → Option TI} {hds : FuncId → Nat} {Q : Exit → Act → World → Prop}
/-- a state that some frame and world bear out -/
def Real (W : Base) (N : Nat) (U : Nat → Prop) (st : St) : Prop := ∃ a w, Inv W U st a w ∧ a.tmps.size = N
theorem opR_real (htt : MOk P J JF W tt) {N : Nat} {all : List Oper} {o : Oper} {v : SV} {u : List (Nat × Ob)} (h : opR tt (SC P J JF hds) all key o st v u) (hR : Real W N U st) (hkey : ∀ k, key ≤ k → k < key + 16 → ¬ U k) (hd : ∀ t, o.dst = some t → t < N ∧ (W.hv = none ∨ t ≠ 0)) :
    Real W N (Uk U key) ((st.put o.dst v).app u) := by
  obtain ⟨a, w, hI, hN⟩ := hR
  have hd' : ∀ t, o.dst = some t → t < a.tmps.size ∧ (W.hv = none ∨ t ≠ 0) := fun t ht => hN ▸ hd t ht
  have und : v = .und ∧ u = [] → Real W N (Uk U key) ((st.put o.dst v).app u) := fun ⟨e1, e2⟩ => by
    subst e1 e2
    exact ⟨_, w, und_inv hI _ hd', by rw [put_tmps]; exact hN⟩
  have run : opRS tt (SC P J JF hds) key o st v u → Real W N (Uk U key) ((st.put o.dst v).app u) := fun h => by
    obtain ⟨⟨g, hH, hS⟩, hU, hdef, hh⟩ := hI
    have evals : ∀ (ts : List TypeId) (args : List Operand), All2 (SVR g w) (evs tt st ts args) (args.map a.eval) ∧ ∀ x ∈ evs tt st ts args, svU U x := fun ts args => by
      have he : args.map a.eval = (zipT ts args).map fun p => a.eval p.2 := by
        have := congrArg (List.map a.eval) (zipT_snd ts args)
        rw [← this, List.map_map]; rfl
      refine ⟨?_, fun x mx => ?_⟩
      · rw [he]
        exact All2.of_map _ _ fun p _ => (ev_ok htt.tt hS hU p.1 p.2).1
      · obtain ⟨p, _, rfl⟩ := List.mem_map.1 mx
        exact (ev_ok htt.tt hS hU p.1 p.2).2
    cases hc : goCall o.op with
    | some c =>
      simp only [opRS, hc] at h
      obtain ⟨_, hcall⟩ := callR_sound htt h hH hU hkey (evals c.2.1 c.2.2).1 (evals c.2.1 c.2.2).2
      obtain ⟨e, w', fr, ⟨rv, _, g', t1, t2, t3, t4, t5, t6⟩, _⟩ := hcall []
      exact ⟨_, _, put_inv hS hU hdef hh hd' t1 t2 t3 t4 t5 t6, by rw [put_tmps]; exact hN⟩
    | none =>
      simp only [opRS, hc] at h
      cases hd2 : dynCall o.op with
      | some c =>
        rw [hd2] at h
        simp only at h
        obtain ⟨fc, h1, _, h⟩ := h
        obtain ⟨cs, _, hcs⟩ := clo_vals h1 (hS c.1)
        obtain ⟨_, hcall⟩ := callR_sound htt h hH hU hkey ((evals c.2.1 c.2.2).1.append hcs) (fun x mx => by
          rcases List.mem_append.1 mx with m | m
          · exact (evals c.2.1 c.2.2).2 x m
          · obtain ⟨c, _, rfl⟩ := List.mem_map.1 m
            exact svU_c _)
        obtain ⟨e, w', fr, ⟨rv, _, g', t1, t2, t3, t4, t5, t6⟩, _⟩ := hcall []
        exact ⟨_, _, put_inv hS hU hdef hh hd' t1 t2 t3 t4 t5 t6, by rw [put_tmps]; exact hN⟩
      | none =>
        rw [hd2] at h
        simp only at h
        obtain ⟨g', cv, w', _, t1, t2, t3, t4, t5, t6⟩ := opE_sound (P := P) (W := W) (a := a) htt.tt o h hH hS hU (hkey key (Nat.le_refl _) (by omega))
        exact ⟨_, _, put_inv hS hU hdef hh hd' t1 t2 t3 t4 t5 t6, by rw [put_tmps]; exact hN⟩
  unfold opR at h
  split at h
  · exact run h
  · exact und h
  · unfold gK at h
    split at h
    · split at h
      · exact run h
      · exact und h
    · split at h
      · exact und h
      · exact h.elim
/-- operations by their numbers -/
def opsI (tt : Nat → Option TI) (S : Ctx) (all : List Oper) (base : Nat) : List Nat → (St → Prop) → St → Prop
  | [], K, st => K st
  | i :: r, K, st => match all[i]? with
    | some o => opG tt S all (base + 16 * i) o (opsI tt S all base r K) st
    | none => opsI tt S all base r K st
theorem opsI_cons {S : Ctx} {all : List Oper} {base i : Nat} {r : List Nat} {K : St → Prop} {o : Oper} (ho : all[i]? = some o) : opsI tt S all base (i :: r) K st = opG tt S all (base + 16 * i) o (opsI tt S all base r K) st := by simp only [opsI, ho]
theorem opsI_of {S : Ctx} {all : List Oper} {base : Nat} {K : St → Prop} : ∀ (r : List Oper) (i : Nat) (st : St), all.drop i = r → opsS tt S all (base + 16 * i) r K st → opsI tt S all base (List.range' i r.length) K st
  | [], _, _, _, h => h
  | o :: r, i, st, hr, h => by
    have hi : all[i]? = some o := by
      have := congrArg (fun l => l[0]?) hr
      simpa using this
    have hr' : all.drop (i + 1) = r := by
      have := congrArg List.tail hr
      simpa using this
    rw [List.length_cons, List.range'_succ, opsI_cons hi]
    obtain ⟨v, u, h1, h2⟩ := opG_iff.1 h
    refine opG_iff.2 ⟨v, u, h1, opsI_of r (i + 1) _ hr' ?_⟩
    rw [show base + 16 * (i + 1) = base + 16 * i + 16 by omega]
    exact h2
/-- an operation that may change places with those before it is taken first -/
theorem front (htt : MOk P J JF W tt) {ops : Array Oper} {N base i : Nat} {o : Oper} (ho : ops.toList[i]? = some o) (hN : ∀ o ∈ ops.toList, ∀ t, o.dst = some t → t < N ∧ (W.hv = none ∨ t ≠ 0)) {K : St → Prop} {R2 : List Nat} : ∀ (R1 : List Nat) (U : Nat → Prop) (st : St), (R1 ++ i :: R2).Nodup →
    (∀ j ∈ R1, ∃ oj, ops.toList[j]? = some oj ∧ oj.apart ops o = true ∧ clsOk tt hds oj.op o.op = true) → (∀ j ∈ R1 ++ i :: R2, ∀ k, base + 16 * j ≤ k → k < base + 16 * j + 16 → ¬ U k) → Real W N U st →
    opsI tt (SC P J JF hds) ops.toList base (R1 ++ i :: R2) K st → opG tt (SC P J JF hds) ops.toList (base + 16 * i) o (opsI tt (SC P J JF hds) ops.toList base (R1 ++ R2) K) st
  | [], U, st, _, _, _, _, h => by rw [List.nil_append, opsI_cons ho] at h; exact h
  | j :: R1, U, st, hnd, hcomp, hk, hR, h => by
    obtain ⟨oj, hj, hap, hcl⟩ := hcomp j (by simp)
    rw [List.cons_append, opsI_cons hj] at h
    obtain ⟨vj, uj, h1, h2⟩ := opG_iff.1 h
    have hkj := hk j (by simp)
    have hki := hk i (by simp)
    rw [List.cons_append, List.nodup_cons] at hnd
    have hij : i ≠ j := fun e => hnd.1 (by simp [e])
    have hR1 := opR_real htt h1 hR hkj (hN oj (List.mem_of_getElem? hj))
    have h3 := front htt ho hN R1 (Uk U (base + 16 * j)) _ hnd.2 (fun q mq => hcomp q (by simp [mq])) (fun q mq k a b hU => by
      rcases hU with hU | ⟨c, d⟩
      · exact hk q (by simp; simp at mq; exact .inr mq) k a b hU
      · have : q = j := by omega
        subst this
        exact hnd.1 mq) hR1 h2
    obtain ⟨vi, ui, h4, h5⟩ := opG_iff.1 h3
    obtain ⟨_, _, hIn, _⟩ := hR
    obtain ⟨c1, c2, c3⟩ := comm hap hcl hIn.wf hkj hki (by omega) h1 h4
    refine opG_iff.2 ⟨vi, ui, c1, ?_⟩
    rw [List.cons_append, opsI_cons hj]
    exact opG_iff.2 ⟨vj, uj, c2, c3 ▸ h5⟩
/-- the operations ahead of one, by the edges -/
def anc (ops : Array Oper) : Nat → Nat → List Nat
  | 0, _ => []
  | n + 1, j => match ops[j]? with
    | some o => (o.after.toList.filter (Region.binds .any)).flatMap fun e => e.on :: anc ops n e.on
    | none => []
def drawOk (tt : Nat → Option TI) (hds : FuncId → Nat) (ops : Array Oper) : Bool :=
  (List.range ops.size).all fun j => match ops[j]? with
    | some oj => (oj.after.toList.all fun e => !Region.binds .any e || Nat.blt e.on j) &&
      (List.range j).all fun i => (anc ops ops.size j).contains i || match ops[i]? with
        | some oi => oi.apart ops oj && clsOk tt hds oi.op oj.op
        | none => true
    | none => true
theorem anc_listed {ops : Array Oper} {listed : Array Bool} (hcl : ∀ i o, ops[i]? = some o → listed.getD i false = true → ∀ e ∈ o.after, Region.binds .any e = true → listed.getD e.on false = true) :
    ∀ (n j : Nat) (o : Oper), ops[j]? = some o → (∀ e ∈ o.after, Region.binds .any e = true → listed.getD e.on false = true) → ∀ i ∈ anc ops n j, listed.getD i false = true
  | 0, j, o, _, _, i, mi => by simp [anc] at mi
  | n + 1, j, o, ho, he, i, mi => by
    simp only [anc, ho, List.mem_flatMap, List.mem_filter] at mi
    obtain ⟨e, ⟨me, hb⟩, mi⟩ := mi
    have hl := he e (by simpa using me) hb
    rcases List.mem_cons.1 mi with rfl | mi
    · exact hl
    · cases ho' : ops[e.on]? with
      | none => cases n <;> simp [anc, ho'] at mi
      | some o' => exact anc_listed hcl n e.on o' ho' (fun e' me' hb' => hcl e.on o' ho' hl e' me' hb') i mi
theorem any_sound (htt : MOk P J JF W tt) {ops : Array Oper} {N base : Nat} (hN : ∀ o ∈ ops.toList, ∀ t, o.dst = some t → t < N ∧ (W.hv = none ∨ t ≠ 0)) (hok : drawOk tt hds ops = true) {K : St → Prop}
    (hQ : ∀ U' st' a' w', Inv W U' st' a' w' → (∀ k, base + 16 * ops.size ≤ k → ¬ U' k) → a'.tmps.size = N → K st' → Q .normal a' w') :
    ∀ (fuel : Nat) (R : List Nat) (listed : Array Bool) (U : Nat → Prop) (st : St) (a : Act) (w : World), R.length ≤ fuel → R.Pairwise (· < ·) → listed.size = ops.size → (∀ i, i ∈ R ↔ (i < ops.size ∧ listed.getD i true = false)) →
      (∀ i o, ops[i]? = some o → listed.getD i false = true → ∀ e ∈ o.after, Region.binds .any e = true → listed.getD e.on false = true) →
      opsI tt (SC P J JF hds) ops.toList base R K st → Inv W U st a w → (∀ j ∈ R, ∀ k, base + 16 * j ≤ k → k < base + 16 * j + 16 → ¬ U k) → (∀ k, base + 16 * ops.size ≤ k → ¬ U k) → a.tmps.size = N → wpAny P .any ops Q fuel listed a w := by
  have hall : ∀ j oj, ops[j]? = some oj → (∀ e ∈ oj.after, Region.binds .any e = true → e.on < j) ∧ ∀ i oi, i < j → ops[i]? = some oi → i ∉ anc ops ops.size j → oi.apart ops oj = true ∧ clsOk tt hds oi.op oj.op = true := fun j oj hj => by
    have hjn : j < ops.size := (Array.getElem?_eq_some_iff.1 hj).1
    have h1 := List.all_eq_true.1 hok j (by simpa using hjn)
    simp only [hj, Bool.and_eq_true, List.all_eq_true] at h1
    refine ⟨fun e me hb => ?_, fun i oi hij hi hn => ?_⟩
    · have := h1.1 e (by simpa using me)
      simp only [hb, Bool.not_true, Bool.false_or] at this
      exact Nat.le_of_ble_eq_true this
    · have := h1.2 i (by simpa using hij)
      simp only [hi, Bool.or_eq_true, Bool.and_eq_true] at this
      rcases this with this | this
      · exact absurd (by simpa using this) hn
      · exact this
  intro fuel
  induction fuel with
  | zero =>
    intro R listed U st a w hlen _ hsz hmem _ h hI _ hU hs
    have hR : R = [] := List.eq_nil_of_length_eq_zero (by omega)
    subst hR
    refine ⟨?_, hQ U st a w hI hU hs h⟩
    rw [List.eq_nil_iff_forall_not_mem]
    intro i mi
    obtain ⟨h1, o, h2, _⟩ := mem_ready.1 mi
    exact absurd ((hmem i).2 ⟨(Array.getElem?_eq_some_iff.1 h2).1, h1⟩) (by simp)
  | succ fuel ih =>
    intro R listed U st a w hlen hso hsz hmem hcl h hI hk hU hs
    refine ⟨fun hr => ?_, fun i mi => ?_⟩
    · cases R with
      | nil => exact hQ U st a w hI hU hs h
      | cons r0 R =>
        exfalso
        obtain ⟨m1, m2⟩ := (hmem r0).1 (by simp)
        have : r0 ∈ Region.ready .any ops listed := mem_ready.2 ⟨m2, ops[r0], by simp [m1], fun e me hb => by
          have hlt := (hall r0 ops[r0] (by simp [m1])).1 e me hb
          by_cases hl : listed.getD e.on true = false
          · have mR := (hmem e.on).2 ⟨by omega, hl⟩
            rcases List.mem_cons.1 mR with e1 | mR
            · omega
            · have := (List.pairwise_cons.1 hso).1 _ mR; omega
          · have hlt2 : e.on < listed.size := by omega
            simp only [Array.getD_eq_getD_getElem?, hlt2, getElem?_pos, Option.getD_some, Bool.not_eq_false] at hl ⊢
            exact hl⟩
        rw [hr] at this
        simp at this
    · obtain ⟨i1, o, i2, i3⟩ := mem_ready.1 mi
      have hin : i < ops.size := (Array.getElem?_eq_some_iff.1 i2).1
      have miR : i ∈ R := (hmem i).2 ⟨hin, i1⟩
      obtain ⟨R1, R2, rfl⟩ := List.append_of_mem miR
      have hnd : (R1 ++ i :: R2).Nodup := hso.imp fun h => Nat.ne_of_lt h
      have ho : ops.toList[i]? = some o := by simpa using i2
      have hanc := anc_listed hcl ops.size i o i2 i3
      have hcomp : ∀ j ∈ R1, ∃ oj, ops.toList[j]? = some oj ∧ oj.apart ops o = true ∧ clsOk tt hds oj.op o.op = true := fun j mj => by
        obtain ⟨j1, j2⟩ := (hmem j).1 (by simp [mj])
        have hji : j < i := (List.pairwise_append.1 hso).2.2 j mj i (by simp)
        have hj : ops[j]? = some ops[j] := by simp [j1]
        refine ⟨ops[j], by simp [j1], (hall i o i2).2 j _ hji hj fun ma => ?_⟩
        have := hanc j ma
        have hlt : j < listed.size := by omega
        simp only [Array.getD_eq_getD_getElem?, hlt, getElem?_pos, Option.getD_some] at this j2
        rw [this] at j2; simp at j2
      have hfr := front htt ho hN R1 U st hnd hcomp hk ⟨a, w, hI, hs⟩ h
      refine wpOp_mono ?_ (opG_sound htt i2 hfr hI (hk i (by simp)) (fun t ht => by rw [hs]; exact hN o (List.mem_of_getElem? ho) t ht))
      rintro a' w' ⟨st', hI', hs', hK'⟩
      have hset : ∀ q, (listed.setIfInBounds i true).getD q true = if q = i then true else listed.getD q true := fun q => by
        by_cases e : q = i
        · subst e; simp [Array.getD_eq_getD_getElem?, Array.getElem?_setIfInBounds, hsz, hin]
        · simp [Array.getD_eq_getD_getElem?, Array.getElem?_setIfInBounds_ne (fun e' : i = q => e e'.symm), e]
      have hset' : ∀ q, (listed.setIfInBounds i true).getD q false = if q = i then true else listed.getD q false := fun q => by
        by_cases e : q = i
        · subst e; simp [Array.getD_eq_getD_getElem?, Array.getElem?_setIfInBounds, hsz, hin]
        · simp [Array.getD_eq_getD_getElem?, Array.getElem?_setIfInBounds_ne (fun e' : i = q => e e'.symm), e]
      have hnotin : i ∉ R1 ++ R2 := by
        rw [List.nodup_append] at hnd
        intro m
        rcases List.mem_append.1 m with m | m
        · exact hnd.2.2 i m i (by simp) rfl
        · exact (List.nodup_cons.1 hnd.2.1).1 m
      refine ih (R1 ++ R2) _ (Uk U (base + 16 * i)) st' a' w' (by simp at hlen ⊢; omega) (hso.sublist (List.Sublist.append (List.Sublist.refl _) (List.sublist_cons_self i R2))) (by simp [hsz]) (fun q => ?_) (fun q oq hq hl e me hb => ?_) hK' hI' (fun q mq k c d hU' => ?_) (fun k hk' hU' => ?_) (by omega)
      · rw [hset q]
        by_cases e : q = i
        · subst e; simp only [if_true, Bool.true_eq_false, and_false, iff_false]; exact hnotin
        · rw [if_neg e, ← hmem q]; simp [e]
      · rw [hset'] at hl ⊢
        by_cases e1 : e.on = i
        · simp [e1]
        · rw [if_neg e1]
          by_cases e2 : q = i
          · subst e2
            rw [i2] at hq
            simp only [Option.some.injEq] at hq
            subst hq
            exact i3 e me hb
          · rw [if_neg e2] at hl
            exact hcl q oq hq hl e me hb
      · have mq' : q ∈ R1 ++ i :: R2 := by simp at mq ⊢; rcases mq with mq | mq <;> simp [mq]
        rcases hU' with hU' | ⟨c', d'⟩
        · exact hk q mq' k c d hU'
        · have : q = i := by omega
          subst this
          exact hnotin mq
      · rcases hU' with hU' | ⟨c', d'⟩
        · exact hU k hk' hU'
        · omega
end
end Go.Proofs.YtppjenkjopjeiaaDoor

namespace Go.Proofs.YtppjenkjopjeiaaDoor
open Go.RowKit
theorem kidx_ok : ∀ {ρ : List Nat} {k i j : Nat}, kidx ρ k i = some j → i ≤ j ∧ ρ[j - i]? = some k
  | [], _, _, _, h => by simp [kidx] at h
  | x :: r, k, i, j, h => by
    simp only [kidx] at h
    split at h
    · rename_i e
      simp only [Option.some.injEq] at h
      subst h e
      exact ⟨Nat.le_refl _, by simp⟩
    · obtain ⟨h1, h2⟩ := kidx_ok h
      refine ⟨by omega, ?_⟩
      rw [show j - i = (j - (i + 1)) + 1 by omega]
      simpa using h2
theorem kidx_zero {ρ : List Nat} {k j : Nat} (h : kidx ρ k 0 = some j) : ρ[j]? = some k := by simpa using (kidx_ok h).2
theorem nodup_inj {α : Type} : ∀ {l : List α}, l.Nodup → ∀ {i j : Nat} (hi : i < l.length) (hj : j < l.length), l[i] = l[j] → i = j
  | [], _, _, _, hi, _, _ => by simp at hi
  | x :: l, h, 0, 0, _, _, _ => rfl
  | x :: l, h, 0, j + 1, _, hj, e => by
    rw [List.nodup_cons] at h
    exact absurd (by simp at e; rw [e]; exact List.getElem_mem _) h.1
  | x :: l, h, i + 1, 0, hi, _, e => by
    rw [List.nodup_cons] at h
    exact absurd (by simp at e; rw [← e]; exact List.getElem_mem _) h.1
  | x :: l, h, i + 1, j + 1, hi, hj, e => by
    rw [List.nodup_cons] at h
    have := nodup_inj h.2 (i := i) (j := j) (by simpa using hi) (by simpa using hj) (by simpa using e)
    omega
section
variable {P : Program} {J : World → Prop} {JF : Nat → Prop} {W : Base} {U : Nat → Prop} {st st' : St} {w w' : World} {a : Act} {tt : Nat → Option TI} {S : Ctx}
theorem rAV_ok {g g' : Gh} {ρ : List Nat} (hv : ∀ j k, ρ[j]? = some k → g'.val j = g.val k) (ho : ∀ b, g'.own b → g.own b) {x : AV} {v : Value} (h : AVR g w x v) : AVR g' w (rAV ρ x) v := by
  cases x with
  | c x => obtain ⟨L, h1, h2⟩ := h; exact ⟨L, h1, fun b m o => h2 b m (ho b o)⟩
  | row k =>
    simp only [rAV]
    split
    · rename_i j hj
      exact ⟨by rw [hv j k (kidx_zero hj)]; exact h.1, h.2⟩
    · exact h.2
  | nil e m => exact h
  | dead => exact h
theorem All2.map_left {α β γ : Type} {R : α → γ → Prop} {R' : β → γ → Prop} (f : α → β) (h : ∀ a c, R a c → R' (f a) c) : ∀ {l : List α} {r : List γ}, All2 R l r → All2 R' (l.map f) r
  | [], [], _ => trivial
  | _ :: _, _ :: _, hh => ⟨h _ _ hh.1, hh.2.map_left f h⟩
  | [], _ :: _, h => h.elim
  | _ :: _, [], h => h.elim
theorem rAV_U (ρ : List Nat) (x : AV) : avU (fun j => j < ρ.length) (rAV ρ x) := by
  cases x with
  | row k =>
    simp only [rAV]
    split
    · rename_i j hj
      exact (List.getElem?_eq_some_iff.1 (kidx_zero hj)).1
    · trivial
  | _ => trivial
theorem ren_inv (hI : Inv W U st a w) {ρ : List Nat} (hρ : ρ.Nodup) : Inv W (fun j => j < ρ.length) (st.ren ρ) a w := by
  obtain ⟨⟨g, hH, hS⟩, hU, hdef, hh⟩ := hI
  let g' : Gh := ⟨fun j => match ρ[j]? with | some k => g.val k | none => undef, fun j => match ρ[j]? with | some k => g.O k | none => [], fun j => match ρ[j]? with | some k => g.D k | none => [], g.Z⟩
  have gs : ∀ j k, ρ[j]? = some k → g'.val j = g.val k ∧ g'.O j = g.O k ∧ g'.D j = g.D k := fun j k h => by simp [g', h]
  have gn : ∀ j, ρ[j]? = none → g'.O j = [] ∧ g'.D j = [] := fun j h => by simp [g', h]
  have ho : ∀ b, g'.own b → g.own b := fun b hb => by
    rcases hb with ⟨j, mj⟩ | hz
    · cases h : ρ[j]? with
      | none => rw [(gn j h).1] at mj; simp at mj
      | some k => rw [(gs j k h).2.1] at mj; exact .inl ⟨k, mj⟩
    · exact .inr hz
  have hAV : ∀ x v, AVR g w x v → AVR g' w (rAV ρ x) v := fun x v h => rAV_ok (fun j k hjk => (gs j k hjk).1) ho h
  have hAVs : ∀ xs vs, All2 (AVR g w) xs vs → All2 (AVR g' w) (xs.map (rAV ρ)) vs := fun xs vs h => h.map_left _ hAV
  have hPV : ∀ ag cs v, PVR g w ag cs v → PVR g' w ag (cs.map (rAV ρ)) v := fun ag cs v h => by
    cases ag with
    | true => obtain ⟨vs, h1, h2⟩ := h; exact ⟨vs, h1, hAVs _ _ h2⟩
    | false => obtain ⟨x, rfl, h2⟩ := h; exact ⟨_, rfl, hAV _ _ h2⟩
  refine ⟨⟨g', ⟨hH.below, fun j => ?_, fun j => ?_, fun j i hji b mb => ?_, fun j b mb => ?_, hH.gz, hH.zx⟩, fun t => ?_⟩, ⟨fun t => ?_, fun j => ?_, fun j hj => ?_⟩, hdef, hh⟩
  · show ObR g' w j (match ρ[j]? with | some k => rOb ρ (st.ob k) | none => .gone)
    cases h : ρ[j]? with
    | none => exact gn j h
    | some k =>
      obtain ⟨e1, e2, e3⟩ := gs j k h
      have hob := hH.obs k
      show ObR g' w j (rOb ρ (st.ob k))
      cases hok : st.ob k with
      | gone => rw [hok] at hob; exact ⟨e2.trans hob.1, e3.trans hob.2⟩
      | box t cs =>
        rw [hok] at hob
        obtain ⟨b, vs, h1, h2, h3, h4, h5⟩ := hob
        exact ⟨b, vs, e1.trans h1, e2.trans h2, e3.trans h3, h4, hAVs _ _ h5⟩
      | map kk vk kv =>
        rw [hok] at hob
        obtain ⟨b, es, c, h1, h2, h3, h4⟩ := hob
        exact ⟨b, es, c, e1.trans h1, e2.trans h2, e3.trans h3, h4⟩
      | row e m xs d =>
        rw [hok] at hob
        obtain ⟨hm, cs, L, h1, h2, h4⟩ := hob
        refine ⟨hm, cs, L, by rw [e1]; exact h1, h2, ?_⟩
        rw [e1, e2, e3]
        rcases h4 with h4 | ⟨hd, h3, h4, h5⟩ | ⟨hd, h3, h4, h5⟩
        · exact .inl h4
        · exact .inr (.inl ⟨hd, h3, h4, fun b mb o => h5 b mb (ho b o)⟩)
        · exact .inr (.inr ⟨hd, h3, h4, fun b mb o => h5 b mb (ho b o)⟩)
  · cases h : ρ[j]? with
    | none => rw [(gn j h).1, (gn j h).2]; simp
    | some k => rw [(gs j k h).2.1, (gs j k h).2.2]; exact hH.nodup k
  · cases h : ρ[j]? with
    | none => rw [(gn j h).1, (gn j h).2] at mb; simp at mb
    | some k =>
      rw [(gs j k h).2.1, (gs j k h).2.2] at mb
      cases h' : ρ[i]? with
      | none => rw [(gn i h').1, (gn i h').2]; simp
      | some q =>
        rw [(gs i q h').2.1, (gs i q h').2.2]
        refine hH.apart k q (fun e => hji ?_) b mb
        subst e
        obtain ⟨l1, e1⟩ := List.getElem?_eq_some_iff.1 h
        obtain ⟨l2, e2⟩ := List.getElem?_eq_some_iff.1 h'
        exact nodup_inj hρ l1 l2 (e1.trans e2.symm)
  · cases h : ρ[j]? with
    | none => rw [(gn j h).1, (gn j h).2] at mb; simp at mb
    | some k =>
      rw [(gs j k h).2.1, (gs j k h).2.2] at mb
      refine ⟨(hH.plain k b mb).1, (hH.plain k b mb).2.of ?_⟩
      show mapB (match ρ[j]? with | some k => rOb ρ (st.ob k) | none => .gone) = _
      rw [h]
      show mapB (rOb ρ (st.ob k)) = _
      cases st.ob k <;> rfl
  · have hs := hS t
    show SVR g' w (rSV ρ (st.sl t)) _
    cases hsl : st.sl t with
    | any => trivial
    | und => rw [hsl] at hs; exact hs
    | p ag cs => rw [hsl] at hs; exact hPV _ _ _ hs
    | tup xs =>
      rw [hsl] at hs
      obtain ⟨vs, h1, h2⟩ := hs
      exact ⟨vs, h1, h2.map_left (fun x : Bool × List AV => (x.1, x.2.map (rAV ρ))) fun x v h => hPV x.1 x.2 v h⟩
    | bp k off =>
      rw [hsl] at hs
      simp only [rSV]
      split
      · rename_i j hj
        obtain ⟨b, h1, h2⟩ := hs
        exact ⟨b, ((gs j k (kidx_zero hj)).1).trans h1, h2⟩
      · trivial
    | rp k m i off =>
      rw [hsl] at hs
      simp only [rSV]
      split
      · rename_i j hj
        obtain ⟨b, o, n, c, h1, h2⟩ := hs
        exact ⟨b, o, n, c, ((gs j k (kidx_zero hj)).1).trans h1, h2⟩
      · trivial
    | ep e off =>
      rw [hsl] at hs
      obtain ⟨b, lo, cs, L, h1, h2, h3, h4, h5⟩ := hs
      exact ⟨b, lo, cs, L, h1, h2, h3, fun x m o => h4 x m (ho x o), h5⟩
    | fn f => rw [hsl] at hs; exact hs
  · show svU _ (rSV ρ (st.sl t))
    cases st.sl t with
    | p ag cs => intro y my; obtain ⟨x, _, rfl⟩ := List.mem_map.1 my; exact rAV_U ρ x
    | tup xs =>
      intro y my
      obtain ⟨x, _, rfl⟩ := List.mem_map.1 my
      intro z mz
      obtain ⟨q, _, rfl⟩ := List.mem_map.1 mz
      exact rAV_U ρ q
    | bp k off =>
      simp only [rSV]
      split
      · rename_i j hj; exact (List.getElem?_eq_some_iff.1 (kidx_zero hj)).1
      · trivial
    | rp k m i off =>
      simp only [rSV]
      split
      · rename_i j hj; exact (List.getElem?_eq_some_iff.1 (kidx_zero hj)).1
      · trivial
    | _ => trivial
  · show obU _ (match ρ[j]? with | some k => rOb ρ (st.ob k) | none => .gone)
    split
    · rename_i k _
      cases st.ob k with
      | box t cs => intro y my; obtain ⟨x, _, rfl⟩ := List.mem_map.1 my; exact rAV_U ρ x
      | _ => trivial
    · trivial
  · show (match ρ[j]? with | some k => rOb ρ (st.ob k) | none => .gone) = .gone
    have : ρ[j]? = none := List.getElem?_eq_none (by omega)
    rw [this]
/-- a row is taken for less than it is -/
theorem low_one {g : Gh} {ob : Nat → Ob} (hI : HI W g ob w) {k e m d d' : Nat} {xs : List (List CT)} (hk : ob k = .row e m xs d) (hd : d' < d) : ∃ g1 : Gh, HI W g1 (upd ob k (.row e m xs d')) w ∧ g1.val = g.val ∧ ∀ b, g1.own b → g.own b := by
  by_cases h0 : d' = 0
  · obtain ⟨g1, h1, h2, h3⟩ := frz_one hI k
    rw [hk] at h1
    exact ⟨g1, by rw [h0]; exact h1, h2, h3⟩
  · have ho := hI.obs k
    rw [hk] at ho
    obtain ⟨hm, cs, L, o1, o2, o3⟩ := ho
    have h2 : d = 2 ∧ g.O k = (g.val k).ownBlock.toList ∧ g.D k = L := by
      rcases o3 with o3 | ⟨q, _⟩ | ⟨q, _⟩
      · exact o3
      · omega
      · omega
    obtain ⟨rfl, q1, q2⟩ := h2
    obtain rfl : d' = 1 := by omega
    let g1 : Gh := ⟨g.val, g.O, upd g.D k [], g.Z⟩
    have hown : ∀ b, g1.own b ↔ g.own b := fun b => Iff.rfl
    have hsub : ∀ j b, b ∈ g1.O j ++ g1.D j → b ∈ g.O j ++ g.D j := fun j b mb => by
      by_cases hj : j = k
      · subst hj; simp [g1, upd] at mb; simp [mb]
      · simpa [g1, upd, hj] using mb
    refine ⟨g1, ⟨hI.below, fun j => ?_, fun j => ?_, fun i j hij b mb mj => hI.apart i j hij b (hsub i b mb) (hsub j b mj), fun j b mb => ⟨(hI.plain j b (hsub j b mb)).1, (hI.plain j b (hsub j b mb)).2.of (by
      by_cases hj : j = k
      · subst hj; rw [upd_same, hk]; rfl
      · rw [upd_ne _ _ hj])⟩, hI.gz, hI.zx⟩, rfl, fun b hb => hb⟩
    · by_cases hj : j = k
      · subst hj
        rw [upd_same]
        refine ⟨hm, cs, L, o1, o2, .inr (.inl ⟨rfl, q1, by simp [g1, upd], fun b mb hb => ?_⟩)⟩
        have mk : b ∈ g.D j := by rw [q2]; exact mb
        rcases hb with ⟨i, mi⟩ | hz
        · by_cases hij : i = j
          · subst hij
            have := hI.nodup i
            rw [List.nodup_append] at this
            exact this.2.2 b mi b mk rfl
          · exact hI.apart i j hij b (by simp; exact .inl mi) (by simp [mk])
        · exact hI.nz (k := j) (b := b) (by simp [mk]) hz
      · rw [upd_ne _ _ hj]
        have hoj := hI.obs j
        cases hh : ob j with
        | gone => rw [hh] at hoj; exact ⟨hoj.1, by simpa [g1, upd, hj] using hoj.2⟩
        | box t ds =>
          rw [hh] at hoj
          obtain ⟨b, vs, h1, h2, h3, h4, h5⟩ := hoj
          exact ⟨b, vs, h1, h2, by simpa [g1, upd, hj] using h3, h4, h5.mono fun x u _ hx => AVR.less hx rfl fun b hb => hb⟩
        | map kk vk kv =>
          rw [hh] at hoj
          obtain ⟨b, es, c, h1, h2, h3, h4⟩ := hoj
          exact ⟨b, es, c, h1, h2, by simpa [g1, upd, hj] using h3, h4⟩
        | row e' m' xs' d2 =>
          rw [hh] at hoj
          obtain ⟨hm', cs', L', p1, p2, p3⟩ := hoj
          refine ⟨hm', cs', L', p1, p2, ?_⟩
          have e2 : g1.D j = g.D j := by simp [g1, upd, hj]
          rw [e2]
          exact p3
    · by_cases hj : j = k
      · subst hj
        have := hI.nodup j
        rw [List.nodup_append] at this
        simpa [g1, upd] using this.1
      · have := hI.nodup j
        simpa [g1, upd, hj] using this
theorem mat_inv (m : Bool × Nat × Nat) (hI : Inv W U st a w) (hk : ∀ k, st.n ≤ k → ¬ U k) : ∃ U', Inv W U' (st.mat m) a w ∧ ∀ k, (st.mat m).n ≤ k → ¬ U' k := by
  have same : ∃ U', Inv W U' st a w ∧ ∀ k, st.n ≤ k → ¬ U' k := ⟨U, hI, hk⟩
  have hk0 : ¬ U st.n := hk st.n (Nat.le_refl _)
  have hU'n : ∀ k, st.n + 1 ≤ k → ¬ (U k ∨ k = st.n) := fun k hk' h => by
    rcases h with h | h
    · exact hk k (by omega) h
    · omega
  -- the new row's part
  have new : ∀ (e q : Nat), 0 < q → ∀ g, HI W g st.ob w → ∃ g', HI W g' (upd st.ob st.n (.row e q [] 2)) w ∧ (∀ x u, svU U x → SVR g w x u → SVR g' w x u) ∧ g'.val st.n = .slice none 0 0 ∧ (∀ x u, avU U x → AVR g w x u → AVR g' w x u) := fun e q hq g hH => by
    obtain ⟨t1, t2⟩ := hH.turn (key := st.n) (U := U) (w' := w) (v := .slice none 0 0) (O := []) (D := []) (o := .row e q [] 2) hI.wf.ob hk0 [] (by simp) hH.below (Nat.le_refl _) (fun _ _ _ => rfl) (by simp) (by simp) (by simp) (by simp)
      (fun _ => ⟨hq, [], [], by simpa [Gh.turn, upd] using ownsV_nil _ _ _ _, ⟨rfl, rfl⟩, .inl ⟨rfl, by simp [Gh.turn, upd, Value.ownBlock], by simp [Gh.turn]⟩⟩)
    refine ⟨_, t1, t2, by simp [Gh.turn, upd], fun x u hx hu => hu.move hx (fun k hk' => upd_ne _ _ fun e => hk0 (e ▸ hk')) (fun _ _ _ => rfl) (fun b ho => ?_)⟩
    rcases turn_own ho with mo | ⟨k, _, _, mk⟩ | hz
    · simp at mo
    · exact .inl (.inl ⟨k, mk⟩)
    · exact .inl (.inr hz)
  have up : ∀ k, U k → (U k ∨ k = st.n) := fun _ h => .inl h
  obtain ⟨⟨g, hH, hS⟩, hU, hdef, hh⟩ := hI
  -- a row, as a tree
  have tree : ∀ k e q xs d, st.ob k = .row e q xs d → ∃ g1 : Gh, HI W g1 (upd st.ob k (.row e q xs 0)) w ∧ g1.val = g.val ∧ (∀ b, g1.own b → g.own b) ∧ U k ∧ ∀ v, AVR g w (.row k) v → AVR g1 w (.c (.sl e q xs)) v := fun k e q xs d hob => by
    obtain ⟨g1, i1, i2, i3⟩ := frz_one hH k
    rw [hob] at i1
    obtain ⟨L, t1, t2⟩ := frz_tree i1 (upd_same st.ob k (.row e q xs 0))
    exact ⟨g1, i1, i2, i3, Classical.byContradiction fun hn => by have := hU.gone _ hn; rw [hob] at this; simp at this, fun v hv => ⟨L, by rw [hv.1, ← i2]; exact t1, t2⟩⟩
  have sets : ∀ {gg : Gh} {cs : List AV} {vs : List Value} {j : Nat} {y : AV} {v : Value}, All2 (AVR gg w) cs vs → vs[j]? = some v → AVR gg w y v → All2 (AVR gg w) (cs.set j y) vs := fun {gg cs vs j y v} h1 h2 h3 => by
    have := h1.set (i := j) h3
    obtain ⟨hl, he⟩ := List.getElem?_eq_some_iff.1 h2
    rw [← he, List.set_getElem_self hl] at this
    exact this
  have pset : ∀ {gg : Gh} {ag : Bool} {cs : List AV} {v : Value} {j : Nat} {x y : AV}, PVR gg w ag cs v → cs[j]? = some x → (∀ u, AVR gg w x u → AVR gg w y u) → PVR gg w ag (cs.set j y) v := fun {gg ag cs v j x y} h1 h2 h3 => by
    cases ag with
    | true =>
      obtain ⟨vs, rfl, h4⟩ := h1
      obtain ⟨u, u1, u2⟩ := h4.at h2
      exact ⟨vs, rfl, sets h4 u1 (h3 u u2)⟩
    | false =>
      obtain ⟨z, rfl, h4⟩ := h1
      cases j with
      | zero => simp at h2; subst h2; exact ⟨y, rfl, h3 v h4⟩
      | succ j => simp at h2
  have uset : ∀ {V : Nat → Prop} {cs : List AV} {j : Nat} {y : AV}, avsU V cs → avU V y → avsU V (cs.set j y) := fun {V cs j y} h1 h2 z mz => by
    rcases List.mem_or_eq_of_mem_set mz with mz | mz
    · exact h1 z mz
    · subst mz; exact h2
  unfold St.mat
  split
  · split
    · rename_i ag cs hsl
      have hcu : avsU U cs := by have := hU.sl m.2.1; rw [hsl] at this; exact this
      have hs := hS m.2.1
      rw [hsl] at hs
      split
      · rename_i e q hcs
        split
        · rename_i hq
          obtain ⟨g', t1, t2, t3, t4⟩ := new e q hq g hH
          refine ⟨fun k => U k ∨ k = st.n, ⟨⟨g', t1, fun t => ?_⟩, ⟨fun t => ?_, fun k => ?_, fun k hk' => ?_⟩, hdef, hh⟩, hU'n⟩
          · show SVR g' w (upd st.sl m.2.1 (.p ag (cs.set m.2.2 (.row st.n))) t) _
            by_cases ht : t = m.2.1
            · subst ht
              rw [upd_same]
              have h1 : PVR g' w ag cs (a.tmps.getD m.2.1 undef) := t2 (.p ag cs) _ hcu hs
              refine pset h1 hcs fun u hu => ?_
              have hu' : u = .slice none 0 0 := hu
              rw [hu']
              exact ⟨t3.symm, rfl⟩
            · rw [upd_ne _ _ ht]; exact t2 _ _ (hU.sl t) (hS t)
          · show svU _ (upd st.sl m.2.1 (.p ag (cs.set m.2.2 (.row st.n))) t)
            by_cases ht : t = m.2.1
            · subst ht; rw [upd_same]; exact uset (hcu.mono up) (.inr rfl)
            · rw [upd_ne _ _ ht]; exact (hU.sl t).mono up
          · show obU _ (upd st.ob st.n _ k)
            by_cases hk' : k = st.n
            · subst hk'; rw [upd_same]; trivial
            · rw [upd_ne _ _ hk']; exact (hU.ob k).mono up
          · show upd st.ob st.n _ k = _
            rw [upd_ne _ _ fun e => hk' (.inr e)]; exact hU.gone k fun h => hk' (.inl h)
        · exact same
      · rename_i k hcs
        split
        · rename_i e q xs d hob
          obtain ⟨g1, i1, i2, i3, hUk, i4⟩ := tree k e q xs d hob
          refine ⟨U, ⟨⟨g1, i1, fun t => ?_⟩, ⟨fun t => ?_, fun j => ?_, fun j hj => ?_⟩, hdef, hh⟩, hk⟩
          · show SVR g1 w (upd st.sl m.2.1 (.p ag (cs.set m.2.2 (.c (.sl e q xs)))) t) _
            by_cases ht : t = m.2.1
            · subst ht
              rw [upd_same]
              have h1 : PVR g1 w ag cs (a.tmps.getD m.2.1 undef) := (show SVR g w (.p ag cs) _ from hs).less i2 i3
              exact pset h1 hcs fun u hu => i4 u ⟨hu.1.trans (by rw [i2]), hu.2⟩
            · rw [upd_ne _ _ ht]; exact (hS t).less i2 i3
          · show svU _ (upd st.sl m.2.1 (.p ag (cs.set m.2.2 (.c (.sl e q xs)))) t)
            by_cases ht : t = m.2.1
            · subst ht; rw [upd_same]; exact uset hcu trivial
            · rw [upd_ne _ _ ht]; exact hU.sl t
          · show obU U (upd st.ob k (.row e q xs 0) j)
            by_cases h1 : j = k
            · subst h1; rw [upd_same]; trivial
            · rw [upd_ne _ _ h1]; exact hU.ob j
          · show upd st.ob k (.row e q xs 0) j = _
            rw [upd_ne _ _ (show j ≠ k from fun e' => hj (e' ▸ hUk))]; exact hU.gone j hj
        · exact same
      · exact same
    · exact same
  · split
    · rename_i ty cs hob
      split
      · rename_i e q hcs
        split
        · rename_i hq
          obtain ⟨g', t1, t2, t3, t4⟩ := new e q hq g hH
          have hUk : U m.2.1 := Classical.byContradiction fun hn => by have := hU.gone _ hn; rw [hob] at this; simp at this
          have hne : m.2.1 ≠ st.n := fun e => hk0 (e ▸ hUk)
          have hcu : avsU U cs := by have := hU.ob m.2.1; rw [hob] at this; exact this
          have hbox := t1.obs m.2.1
          rw [upd_ne _ _ hne, hob] at hbox
          obtain ⟨b, vs, b1, b2, b3, b4, b5⟩ := hbox
          obtain ⟨u, u1, u2⟩ := b5.at hcs
          have u2' : u = .slice none 0 0 := u2
          have hvs : vs.set m.2.2 u = vs := by
            obtain ⟨hl, he⟩ := List.getElem?_eq_some_iff.1 u1
            rw [← he]; exact List.set_getElem_self hl
          have hbox' : ObR g' w m.2.1 (.box ty (cs.set m.2.2 (.row st.n))) := by
            refine ⟨b, vs, b1, b2, b3, b4, ?_⟩
            have := b5.set (i := m.2.2) (a := AV.row st.n) (b := u) ⟨by rw [u2', t3], by rw [u2']; rfl⟩
            rw [hvs] at this
            exact this
          have hob' : ∀ k, (upd (upd st.ob m.2.1 (.box ty (cs.set m.2.2 (.row st.n)))) st.n (.row e q [] 2)) k = if k = m.2.1 then .box ty (cs.set m.2.2 (.row st.n)) else (upd st.ob st.n (.row e q [] 2)) k := fun k => by
            by_cases h1 : k = st.n
            · have h2 : ¬ k = m.2.1 := fun e' => hne (e'.symm.trans h1)
              have h3 : ¬ st.n = m.2.1 := fun e' => hne e'.symm
              simp [upd, h1, h3]
            · by_cases h2 : k = m.2.1
              · simp [upd, h2, hne]
              · simp [upd, h1, h2]
          refine ⟨fun k => U k ∨ k = st.n, ⟨⟨g', ⟨t1.below, fun k => ?_, t1.nodup, t1.apart, fun k b mb => ⟨(t1.plain k b mb).1, (t1.plain k b mb).2.of (by
              show mapB ((upd (upd st.ob m.2.1 (.box ty (cs.set m.2.2 (.row st.n)))) st.n (.row e q [] 2)) k) = _
              rw [hob' k]
              split
              · rename_i h1; subst h1; rw [upd_ne _ _ hne, hob]; rfl
              · rfl)⟩, t1.gz, t1.zx⟩, fun t => t2 _ _ (hU.sl t) (hS t)⟩, ⟨fun t => (hU.sl t).mono up, fun k => ?_, fun k hk' => ?_⟩, hdef, hh⟩, hU'n⟩
          · show ObR g' w k ((upd (upd st.ob m.2.1 (.box ty (cs.set m.2.2 (.row st.n)))) st.n (.row e q [] 2)) k)
            rw [hob' k]
            split
            · rename_i h1; subst h1; exact hbox'
            · exact t1.obs k
          · show obU _ ((upd (upd st.ob m.2.1 (.box ty (cs.set m.2.2 (.row st.n)))) st.n (.row e q [] 2)) k)
            rw [hob' k]
            split
            · intro y my
              rcases List.mem_or_eq_of_mem_set my with my | my
              · exact (hcu y my).mono up
              · subst my; exact .inr rfl
            · by_cases h1 : k = st.n
              · subst h1; rw [upd_same]; trivial
              · rw [upd_ne _ _ h1]; exact (hU.ob k).mono up
          · show (upd (upd st.ob m.2.1 (.box ty (cs.set m.2.2 (.row st.n)))) st.n (.row e q [] 2)) k = _
            rw [hob' k, if_neg (show ¬ k = m.2.1 from fun e' => hk' (.inl (e' ▸ hUk))), upd_ne _ _ (show k ≠ st.n from fun e' => hk' (.inr e'))]
            exact hU.gone k fun h => hk' (.inl h)
        · exact same
      · rename_i k hcs
        split
        · rename_i e q xs d hob2
          obtain ⟨g1, i1, i2, i3, hUk, i4⟩ := tree k e q xs d hob2
          have hUm : U m.2.1 := Classical.byContradiction fun hn => by have := hU.gone _ hn; rw [hob] at this; simp at this
          have hne : k ≠ m.2.1 := fun e' => by rw [e', hob] at hob2; simp at hob2
          have hcu : avsU U cs := by have := hU.ob m.2.1; rw [hob] at this; exact this
          have hbox := i1.obs m.2.1
          rw [upd_ne _ _ (fun e' => hne e'.symm), hob] at hbox
          obtain ⟨b, vs, b1, b2, b3, b4, b5⟩ := hbox
          obtain ⟨u, u1, u2⟩ := b5.at hcs
          have hbox' : ObR g1 w m.2.1 (.box ty (cs.set m.2.2 (.c (.sl e q xs)))) := ⟨b, vs, b1, b2, b3, b4, sets b5 u1 (i4 u ⟨u2.1.trans (by rw [i2]), u2.2⟩)⟩
          refine ⟨U, ⟨⟨g1, ⟨i1.below, fun j => ?_, i1.nodup, i1.apart, fun j b mb => ⟨(i1.plain j b mb).1, (i1.plain j b mb).2.of (by
              show mapB (upd (upd st.ob k (.row e q xs 0)) m.2.1 (.box ty (cs.set m.2.2 (.c (.sl e q xs)))) j) = _
              by_cases h1 : j = m.2.1
              · subst h1; rw [upd_same, upd_ne _ _ (fun e' => hne e'.symm), hob]; rfl
              · rw [upd_ne _ _ h1])⟩, i1.gz, i1.zx⟩, fun t => (hS t).less i2 i3⟩, ⟨hU.sl, fun j => ?_, fun j hj => ?_⟩, hdef, hh⟩, hk⟩
          · show ObR g1 w j (upd (upd st.ob k (.row e q xs 0)) m.2.1 (.box ty (cs.set m.2.2 (.c (.sl e q xs)))) j)
            by_cases h1 : j = m.2.1
            · subst h1; rw [upd_same]; exact hbox'
            · rw [upd_ne _ _ h1]; exact i1.obs j
          · show obU U (upd (upd st.ob k (.row e q xs 0)) m.2.1 (.box ty (cs.set m.2.2 (.c (.sl e q xs)))) j)
            by_cases h1 : j = m.2.1
            · subst h1; rw [upd_same]; exact uset hcu trivial
            · rw [upd_ne _ _ h1]
              by_cases h2 : j = k
              · subst h2; rw [upd_same]; trivial
              · rw [upd_ne _ _ h2]; exact hU.ob j
          · show upd (upd st.ob k (.row e q xs 0)) m.2.1 (.box ty (cs.set m.2.2 (.c (.sl e q xs)))) j = _
            rw [upd_ne _ _ (show j ≠ m.2.1 from fun e' => hj (e' ▸ hUm)), upd_ne _ _ (show j ≠ k from fun e' => hj (e' ▸ hUk))]; exact hU.gone j hj
        · exact same
      · exact same
    · rename_i e q xs d hob
      split
      · rename_i hlt
        have hUk : U m.2.1 := Classical.byContradiction fun hn => by have := hU.gone _ hn; rw [hob] at this; simp at this
        obtain ⟨g1, t1, t2, t3⟩ := low_one hH hob hlt
        refine ⟨U, ⟨⟨g1, t1, fun t => (hS t).less t2 t3⟩, ⟨hU.sl, fun k => ?_, fun k hk' => ?_⟩, hdef, hh⟩, hk⟩
        · show obU U (upd st.ob m.2.1 (.row e q xs m.2.2) k)
          by_cases h1 : k = m.2.1
          · subst h1; rw [upd_same]; trivial
          · rw [upd_ne _ _ h1]; exact hU.ob k
        · show upd st.ob m.2.1 (.row e q xs m.2.2) k = _
          rw [upd_ne _ _ (show k ≠ m.2.1 from fun e' => hk' (e' ▸ hUk))]; exact hU.gone k hk'
      · exact same
    · exact same
theorem mats_inv : ∀ (ms : List (Bool × Nat × Nat)) {U : Nat → Prop} {st : St}, Inv W U st a w → (∀ k, st.n ≤ k → ¬ U k) → ∃ U', Inv W U' (st.mats ms) a w
  | [], U, st, hI, _ => ⟨U, hI⟩
  | m :: r, U, st, hI, hk => by
    obtain ⟨U', h1, h2⟩ := mat_inv m hI hk
    exact mats_inv r h1 h2
theorem least {p : Nat → Prop} (h : ∃ n, p n) : ∃ n, p n ∧ ∀ m, m < n → ¬ p m := by
  obtain ⟨n, hn⟩ := h
  induction n using Nat.strongRecOn with
  | _ n ih =>
    by_cases hm : ∃ m, m < n ∧ p m
    · obtain ⟨m, h1, h2⟩ := hm; exact ih m h1 h2
    · exact ⟨n, hn, fun m h1 h2 => hm ⟨m, h1, h2⟩⟩
theorem wp_loop_n {c : Code} {Q : Exit → Act → World → Prop} (J : Nat → Act → World → Prop) (n : Nat) (h₀ : J n a w) (round : ∀ n a w, J n a w → c.wp P (Exit.then (fun a' w' => ∃ m, m < n ∧ J m a' w') Q) a w) : (Code.loop c).wp P Q a w := by
  classical
  let μ : Act → World → Nat := fun a w => if h : ∃ n, J n a w then Classical.choose (least h) else 0
  have hμ : ∀ a w (h : ∃ n, J n a w), J (μ a w) a w ∧ ∀ m, m < μ a w → ¬ J m a w := fun a w h => by
    simp only [μ, dif_pos h]
    exact Classical.choose_spec (least h)
  refine wp_loop (fun a w => ∃ n, J n a w) μ ⟨n, h₀⟩ fun a w h => ?_
  refine wp_mono (round (μ a w) a w (hμ a w h).1) fun e a' w' he => ?_
  cases e with
  | normal =>
    obtain ⟨m, h1, h2⟩ := he
    refine ⟨⟨m, h2⟩, ?_⟩
    have h3 := hμ a' w' ⟨m, h2⟩
    rcases Nat.lt_or_ge m (μ a' w') with h4 | h4
    · exact absurd h2 (h3.2 m h4)
    · omega
  | _ => exact he
mutual
theorem RC.deep {w : World} : ∀ {x : CT} {v : Value} {L : List Nat}, RC w x v L → ctD x
  | .int _ _, _, _, _ => trivial
  | .bool _, _, _, _ => trivial
  | .str _, _, _, h => h.2.2
  | .sl _ _ _, _, _, ⟨A, cap, cs, L0, L1, h1, h2, h3, h4, h5, h6, h7⟩ => ⟨by unfold maxLen at h3; omega, h7.deep⟩
  | .pt _, _, _, ⟨_, _, _, _, _, _, _, h⟩ => h.deep
  | .fn _ _, _, _, ⟨_, _, h⟩ => h.deep
  | .mp _ _ _, _, _, _ => trivial
  | .ifc _, _, _, _ => trivial
theorem RCs.deep {w : World} : ∀ {x : List CT} {v : List Value} {L : List Nat}, RCs w x v L → ctsD x
  | [], _, _, _ => trivial
  | _ :: _, _, _, ⟨v, cs, L1, L2, h1, h2, h3, h4⟩ => ⟨h3.deep, h4.deep⟩
theorem REs.deep {w : World} {m : Nat} : ∀ {x : List (List CT)} {v : List Value} {L : List Nat}, REs w m x v L → essD x
  | [], _, _, _ => trivial
  | _ :: _, _, _, ⟨c1, c2, L1, L2, h1, h2, h3, h4⟩ => ⟨h3.1.deep, h4.deep⟩
end
theorem AVR.deep {g : Gh} {w : World} : ∀ {x : AV} {v : Value}, AVR g w x v → avD x
  | .c _, _, ⟨_, h, _⟩ => h.deep
  | .row _, _, _ => trivial
  | .nil _ _, _, _ => trivial
  | .dead, _, _ => trivial
theorem AVRs.deep {g : Gh} {w : World} : ∀ {x : List AV} {v : List Value}, All2 (AVR g w) x v → avsD x
  | [], [], _ => trivial
  | _ :: _, _ :: _, h => ⟨h.1.deep, AVRs.deep h.2⟩
  | [], _ :: _, h => h.elim
  | _ :: _, [], h => h.elim
theorem Inv.deep (hI : Inv W U st a w) : WF st := by
  obtain ⟨⟨g, hH, hS⟩, hU, hdef, hh⟩ := hI
  refine ⟨fun t b cs ht => ?_, fun k t cs hk => ?_, fun k e m xs d hk => ?_⟩
  · have h := hS t
    rw [ht] at h
    cases b with
    | true => obtain ⟨vs, _, h2⟩ := h; exact AVRs.deep h2
    | false => obtain ⟨x, rfl, h2⟩ := h; exact ⟨h2.deep, trivial⟩
  · have h := hH.obs k
    rw [hk] at h
    obtain ⟨b, vs, _, _, _, _, h2⟩ := h
    exact AVRs.deep h2
  · have h := hH.obs k
    rw [hk] at h
    obtain ⟨_, cs, L, h1, h2, _⟩ := h
    refine ⟨?_, h2.deep⟩
    rcases h1.2 with ⟨_, h3⟩ | ⟨_, _, cap, _, _, _, _, h3, h4, _⟩
    · omega
    · unfold maxLen at h4; omega
def toExit : Ex → Exit
  | .normal => .normal
  | .exit id => .exit id
  | .ret => .ret
/-- the code's form: slots in range, open orders that do not matter -/
def codeOk (tt : Nat → Option TI) (hs : FuncId → Nat) (k0 : Bool) (N : Nat) : Code → Bool
  | .skip => true
  | .region _ ops d => (ops.toList.all fun o => match o.dst with | some t => Nat.blt t N && (!k0 || Nat.blt 0 t) | none => true) && (!d || drawOk tt hs ops)
  | .seq x y => codeOk tt hs k0 N x && codeOk tt hs k0 N y
  | .cond _ x y => codeOk tt hs k0 N x && codeOk tt hs k0 N y
  | .block _ x => codeOk tt hs k0 N x
  | .loop x => codeOk tt hs k0 N x
  | .exit _ => true
  | .ret => true
  | _ => false
theorem swp_sound (htt : MOk P J JF W tt) (hmix : P.follows .mixedOrders = true) {hds : FuncId → Nat} {k0 : Bool} (hk0 : W.hv = none ∨ k0 = true) {N : Nat} : ∀ (c : Code), codeOk tt hds k0 N c = true → ∀ (Qs : Ex → St → Prop) (Q : Exit → Act → World → Prop),
    (∀ ex U' st' a' w', Inv W U' st' a' w' → (∀ k, st'.n ≤ k → ¬ U' k) → a'.tmps.size = N → Qs ex st' → Q (toExit ex) a' w') →
    ∀ U st a w, Inv W U st a w → (∀ k, st.n ≤ k → ¬ U k) → a.tmps.size = N → swp tt (SC P J JF hds) c Qs st → c.wp P Q a w
  | .skip, _, Qs, Q, hQ, U, st, a, w, hI, hk, hs, h => wp_skip (hQ .normal U st a w hI hk hs h)
  | .exit id, _, Qs, Q, hQ, U, st, a, w, hI, hk, hs, h => wp_exit (hQ (.exit id) U st a w hI hk hs h)
  | .ret, _, Qs, Q, hQ, U, st, a, w, hI, hk, hs, h => wp_ret (hQ .ret U st a w hI hk hs h)
  | .region id ops d, hok, Qs, Q, hQ, U, st, a, w, hI, hk, hs, h => by
    simp only [codeOk, Bool.and_eq_true, List.all_eq_true] at hok
    have hN : ∀ o ∈ ops.toList, ∀ t, o.dst = some t → t < N ∧ (W.hv = none ∨ t ≠ 0) := fun o mo t ht => by
      have := hok.1 o mo
      rw [ht] at this
      simp only [Bool.and_eq_true, Bool.or_eq_true] at this
      refine ⟨Nat.le_of_ble_eq_true this.1, hk0.imp (fun h => h) fun h => ?_⟩
      rcases this.2 with h2 | h2
      · rw [h] at h2; simp at h2
      · have h3 : 0 < t := Nat.le_of_ble_eq_true h2
        exact Nat.ne_of_gt h3
    have hend : ∀ U' st' a' w', Inv W U' st' a' w' → (∀ k, st.n + 16 * ops.toList.length ≤ k → ¬ U' k) → a'.tmps.size = N → endK (st.n + 16 * ops.toList.length) (Qs .normal) st' → Q .normal a' w' := fun U' st' a' w' h1 h2 h3 h4 =>
      hQ .normal U' { st' with n := st.n + 16 * ops.toList.length } a' w' ⟨h1.ex, ⟨h1.wf.sl, h1.wf.ob, h1.wf.gone⟩, h1.defers, h1.hand⟩ h2 h3 h4
    have h' : opsS tt (SC P J JF hds) ops.toList st.n ops.toList (endK (st.n + 16 * ops.toList.length) (Qs .normal)) st := h
    cases d with
    | false =>
      refine wp_region ?_
      have := ops_sound (Q := Q) htt hN ops.toList 0 st.n U st a w (by simp) h' hI hk hs hend
      rw [List.range_eq_range']
      simpa using this
    | true =>
      have hdr : drawOk tt hds ops = true := by simpa using hok.2
      refine wp_region_any hmix ?_
      have h2 := opsI_of (tt := tt) (S := SC P J JF hds) (all := ops.toList) (base := st.n) (K := endK (st.n + 16 * ops.toList.length) (Qs .normal)) ops.toList 0 st (by simp) (by simpa using h')
      rw [← List.range_eq_range'] at h2
      have hI' : Inv W U st a { w with drawn := w.drawn + 1 } := by
        obtain ⟨⟨g, hH, hS⟩, hU, hdef, hh⟩ := hI
        have hw : ∀ b, b < w.heap.size → ¬ g.own b → ({ w with drawn := w.drawn + 1 } : World).heap[b]? = w.heap[b]? := fun _ _ _ => rfl
        refine ⟨⟨g, hH.step (U := U) (fun _ => False) ⟨hH.below.os, hH.below.tape, hH.below.output, hH.below.size, hH.below.block⟩ rfl (fun _ _ _ => rfl) (fun _ _ => ⟨rfl, rfl, rfl, rfl⟩) hU.ob (fun _ _ => rfl) (fun _ h => .inl h) (fun _ h => h.elim), fun t => ?_⟩, hU, hdef, hh⟩
        exact (hS t).move (hU.sl t) (fun _ _ => rfl) hw (fun _ h => .inl h) (Nat.le_refl _)
      refine any_sound (base := st.n) htt hN hdr (fun U' st' a' w' h1 h2 h3 h4 => hend U' st' a' w' h1 (by simpa using h2) h3 h4) ops.size (List.range ops.toList.length) (Array.replicate ops.size false) U st a _ (by simp) (List.pairwise_lt_range) (by simp) (fun i => ?_) (fun i o ho hl => ?_) h2 hI' (fun j _ k hk' _ => hk k (by omega)) (fun k hk' => hk k (by omega)) hs
      · simp only [List.mem_range, Array.length_toList]
        constructor
        · intro hi; exact ⟨hi, by simp [Array.getD_eq_getD_getElem?, hi]⟩
        · exact fun hi => hi.1
      · exfalso
        have hi : i < ops.size := (Array.getElem?_eq_some_iff.1 ho).1
        simp [Array.getD_eq_getD_getElem?, hi] at hl
  | .seq x y, hok, Qs, Q, hQ, U, st, a, w, hI, hk, hs, h => by
    simp only [codeOk, Bool.and_eq_true] at hok
    refine wp_seq (swp_sound htt hmix hk0 x hok.1 (thenK (swp tt (SC P J JF hds) y Qs) Qs) _ ?_ U st a w hI hk hs h)
    intro ex U' st' a' w' h1 h2 h3 h4
    cases ex with
    | normal => exact swp_sound htt hmix hk0 y hok.2 Qs Q hQ U' st' a' w' h1 h2 h3 h4
    | exit id => exact hQ (.exit id) U' st' a' w' h1 h2 h3 h4
    | ret => exact hQ .ret U' st' a' w' h1 h2 h3 h4
  | .cond c x y, hok, Qs, Q, hQ, U, st, a, w, hI, hk, hs, h => by
    simp only [codeOk, Bool.and_eq_true] at hok
    simp only [swp, condK] at h
    split at h
    · rename_i hb
      obtain ⟨b, hb'⟩ : ∃ b, st.ev tt 0 c = .p false [.c (.bool b)] := by
        unfold isBool at hb
        split at hb
        · rename_i b he; exact ⟨b, he⟩
        · simp at hb
      obtain ⟨g, hH, hS⟩ := hI.ex
      have hv := (ev_ok (P := P) htt.tt hS hI.wf 0 c).1
      rw [hb'] at hv
      have hv' := bool_of hv
      refine wp_cond hv' ?_
      cases b with
      | true => rw [if_pos (by rw [hb']; rfl)] at h; exact swp_sound htt hmix hk0 x hok.1 Qs Q hQ U st a w hI hk hs h
      | false => rw [if_neg (by rw [hb']; simp [getBool])] at h; exact swp_sound htt hmix hk0 y hok.2 Qs Q hQ U st a w hI hk hs h
    · exact h.elim
  | .block id x, hok, Qs, Q, hQ, U, st, a, w, hI, hk, hs, h => by
    refine wp_block (swp_sound htt hmix hk0 x hok (blockK id Qs) _ ?_ U st a w hI hk hs h)
    intro ex U' st' a' w' h1 h2 h3 h4
    cases ex with
    | normal => exact hQ .normal U' st' a' w' h1 h2 h3 h4
    | exit j =>
      show Exit.inBlock id Q (.exit j) a' w'
      simp only [blockK] at h4
      simp only [Exit.inBlock]
      split
      · rename_i e; rw [if_pos e] at h4; exact hQ .normal U' st' a' w' h1 h2 h3 h4
      · rename_i e; rw [if_neg e] at h4; exact hQ (.exit j) U' st' a' w' h1 h2 h3 h4
    | ret => exact hQ .ret U' st' a' w' h1 h2 h3 h4
  | .loop x, hok, Qs, Q, hQ, U, st, a, w, hI, hk, hs, h => by
    obtain ⟨n, hn⟩ := h
    refine wp_loop_n (fun n a w => ∃ U st, Inv W U st a w ∧ (∀ k, st.n ≤ k → ¬ U k) ∧ a.tmps.size = N ∧ loopN (swp tt (SC P J JF hds) x) Qs n st) n ⟨U, st, hI, hk, hs, hn⟩ ?_
    rintro n a w ⟨U, st, hI, hk, hs, hn⟩
    cases n with
    | zero => exact hn.elim
    | succ n =>
      obtain ⟨ms, ρ, hρ, hb⟩ := hn
      obtain ⟨U2, hI2⟩ := mats_inv ms hI hk
      refine swp_sound htt hmix hk0 x hok (thenK (loopN (swp tt (SC P J JF hds) x) Qs n) Qs) _ ?_ _ ((st.mats ms).ren ρ) a w (ren_inv hI2 hρ) (fun k hk' hU => by simp only [St.ren] at hk'; omega) hs (hb (ren_inv hI2 hρ).deep)
      intro ex U' st' a' w' h1 h2 h3 h4
      cases ex with
      | normal => exact ⟨n, by omega, U', st', h1, h2, h3, h4⟩
      | exit id => exact hQ (.exit id) U' st' a' w' h1 h2 h3 h4
      | ret => exact hQ .ret U' st' a' w' h1 h2 h3 h4
  | .rangeFunc _ _ _ _, hok, _, _, _, _, _, _, _, _, _, _, _ => by simp [codeOk] at hok
  | .scope _, hok, _, _, _, _, _, _, _, _, _, _, _ => by simp [codeOk] at hok
  | .label _, hok, _, _, _, _, _, _, _, _, _, _, _ => by simp [codeOk] at hok
  | .goto _, hok, _, _, _, _, _, _, _, _, _, _, _ => by simp [codeOk] at hok
  | .refuse _, hok, _, _, _, _, _, _, _, _, _, _, _ => by simp [codeOk] at hok
end
end Go.Proofs.YtppjenkjopjeiaaDoor

namespace Go.Proofs.YtppjenkjopjeiaaDoor
open Go.RowKit
section
variable {P : Program} {J : World → Prop} {JF : Nat → Prop} {W : Base} {U : Nat → Prop} {st : St} {w w' : World} {a : Act} {tt : Nat → Option TI} {g : Gh}
/-- the blocks that are written to behind the call: those of calls below, and those of the rows that are given -/
def nK (g : Gh) (K : Nat → Prop) (b : Nat) : Prop := g.Z b ∨ ∃ k, K k ∧ b ∈ g.O k
theorem own_base {k e m n B : Nat} {cs : List Value} (h : w.ownsV 0 e m (g.val k) n cs) (hB : ∀ b ∈ (g.val k).ownBlock.toList, B ≤ b) : w.ownsV B e m (g.val k) n cs := by
  refine ⟨h.1, ?_⟩
  rcases h.2 with h0 | ⟨q, o, cap, cur, hv, hg, r⟩
  · exact .inl h0
  · exact .inr ⟨q, o, cap, cur, hv, hB q (by simp [hv, Value.ownBlock]), r⟩
variable {K : Nat → Prop}
theorem resAV_ok (hI : HI W g st.ob w) (hK : ∀ k, K k → mapB (st.ob k) = false ∧ ∀ e m xs d, st.ob k = .row e m xs d → d = 2) {x : AV} {ct : Bool × CT} {ks : List Nat} {v : Value} (h : resAV st x = some (ct, ks)) (hks : ∀ k ∈ ks, K k ∧ ∀ b ∈ g.O k ++ g.D k, W.heap.size ≤ b) (hx : AVR g w x v) : OC w W.heap.size (nK g K) ct v (g.F ks) := by
  have hsub : ∀ b, nK g K b → g.own b := fun b hb => by
    rcases hb with hz | ⟨k, _, mk⟩
    · exact .inr hz
    · exact .inl ⟨k, mk⟩
  cases x with
  | c y =>
    obtain ⟨L, h1, h2⟩ := hx
    cases y <;> simp only [resAV, Option.some.injEq, Prod.mk.injEq] at h <;> obtain ⟨rfl, rfl⟩ := h
    · exact ⟨⟨h1.1, rfl⟩, by simp [Gh.F]⟩
    · exact ⟨⟨h1.1, rfl⟩, by simp [Gh.F]⟩
    · exact ⟨⟨h1.1, rfl, h1.2.2⟩, by simp [Gh.F]⟩
    · exact ⟨by simp [Gh.F], L, h1, fun b mb hb => h2 b mb (hsub b hb)⟩
    · exact ⟨by simp [Gh.F], L, h1, fun b mb hb => h2 b mb (hsub b hb)⟩
    · exact ⟨by simp [Gh.F], L, h1, fun b mb hb => h2 b mb (hsub b hb)⟩
    · exact ⟨by simp [Gh.F], L, h1, fun b mb hb => h2 b mb (hsub b hb)⟩
    · exact ⟨⟨rfl, h1.2⟩, by simp [Gh.F]⟩
  | row k =>
    simp only [resAV] at h
    split at h
    · rename_i e m xs d hk
      obtain ⟨hm, cs, L, o1, o2, o3, o5⟩ := hI.deep hk
      split at h
      · rename_i hd
        simp only [Option.some.injEq, Prod.mk.injEq] at h
        obtain ⟨rfl, rfl⟩ := h
        have hKk := hks k (by simp)
        rcases o5 with ⟨_, q1, q2⟩ | ⟨q, _⟩ | ⟨q, _⟩
        · refine ⟨hm, cs, L, by rw [hx.1]; exact own_base o1 fun b mb => hKk.2 b (by simp [q1, mb]), o2, by simp [Gh.F, q1, q2, hx.1], fun b mb => .inr ⟨k, hKk.1, by rw [q1]; rw [hx.1] at mb; exact mb⟩⟩
        · omega
        · omega
      · rename_i hd
        simp only [Option.some.injEq, Prod.mk.injEq] at h
        obtain ⟨rfl, rfl⟩ := h
        have hnK : ¬ K k := fun h => hd ((hK k h).2 e m xs d hk)
        obtain ⟨A, cap, L0, s1, s2, s3, s4, s5⟩ := Sl.row o1
        refine ⟨by simp [Gh.F], L0 ++ L, ⟨A, cap, cs, L0, L, by rw [hx.1, s1], s2, s3, rfl, hm, s4, o2⟩, fun b mb hb => ?_⟩
        rcases List.mem_append.1 mb with m1 | m1
        · have m2 := s5.subset m1
          rcases o5 with ⟨q, _⟩ | ⟨_, q1, q2⟩ | ⟨_, _, _, q⟩
          · exact hd q
          · have mk : b ∈ g.O k ++ g.D k := by simp [q1, m2]
            rcases hb with hz | ⟨j, hj, mj⟩
            · exact hI.nz mk hz
            · exact hI.apart k j (fun e => hnK (e ▸ hj)) b mk (by simp [mj])
          · exact q b m2 (hsub b hb)
        · exact o3 b m1 (hsub b hb)
    · rename_i kk vk kv hk
      simp only [Option.some.injEq, Prod.mk.injEq] at h
      obtain ⟨rfl, rfl⟩ := h
      have ho := hI.obs k
      rw [hk] at ho
      obtain ⟨b, es, c, q1, q2, q3, q4, q5, q6⟩ := ho
      have hnK : ¬ K k := fun h => by have := (hK k h).1; rw [hk] at this; simp [mapB] at this
      refine ⟨by simp [Gh.F], [b], ⟨b, es, c, by rw [hx.1, q1], q4, q5, q6, rfl⟩, fun x mx hb => ?_⟩
      simp at mx; subst mx
      have mk : x ∈ g.O k ++ g.D k := by simp [q2]
      rcases hb with hz | ⟨j, hj, mj⟩
      · exact hI.nz mk hz
      · exact hI.apart k j (fun e => hnK (e ▸ hj)) x mk (by simp [mj])
    · simp at h
  | nil e m =>
    simp only [resAV] at h
    split at h
    · rename_i hm
      simp only [Option.some.injEq, Prod.mk.injEq] at h
      obtain ⟨rfl, rfl⟩ := h
      have hx' : v = .slice none 0 0 := hx
      subst hx'
      exact ⟨hm, [], [], ownsV_nil _ _ _ _, ⟨rfl, rfl⟩, by simp [Gh.F, Value.ownBlock], by simp [Value.ownBlock]⟩
    · simp at h
  | dead => simp [resAV] at h
theorem resAVs_ok (hI : HI W g st.ob w) (hK : ∀ k, K k → mapB (st.ob k) = false ∧ ∀ e m xs d, st.ob k = .row e m xs d → d = 2) : ∀ {xs : List AV} {cts : List (Bool × CT)} {ks : List Nat} {vs : List Value}, resAVs st xs = some (cts, ks) → (∀ k ∈ ks, K k ∧ ∀ b ∈ g.O k ++ g.D k, W.heap.size ≤ b) → All2 (AVR g w) xs vs → OCs w W.heap.size (nK g K) cts vs (g.F ks)
  | [], _, _, [], h, _, _ => by
    simp only [resAVs, Option.some.injEq, Prod.mk.injEq] at h
    obtain ⟨rfl, rfl⟩ := h
    exact ⟨rfl, by simp [Gh.F]⟩
  | [], _, _, _ :: _, _, _, h => h.elim
  | _ :: _, _, _, [], _, _, h => h.elim
  | x :: r, cts, ks, v :: vs, h, hks, hr => by
    simp only [resAVs] at h
    obtain ⟨⟨c1, k1⟩, h1, h⟩ := Option.bind_eq_some_iff.1 h
    obtain ⟨⟨c2, k2⟩, h2, h⟩ := Option.map_eq_some_iff.1 h
    simp only [Prod.mk.injEq] at h
    obtain ⟨rfl, rfl⟩ := h
    exact ⟨v, vs, g.F k1, g.F k2, rfl, by simp [Gh.F], resAV_ok hI hK h1 (fun k mk => hks k (by simp [mk])) hr.1, resAVs_ok hI hK h2 (fun k mk => hks k (by simp [mk])) hr.2⟩
theorem resPV_ok (hI : HI W g st.ob w) (hK : ∀ k, K k → mapB (st.ob k) = false ∧ ∀ e m xs d, st.ob k = .row e m xs d → d = 2) {ag : Bool} {cs : List AV} {cts : List (Bool × CT)} {ks : List Nat} {v : Value} (h : resAVs st cs = some (cts, ks)) (hks : ∀ k ∈ ks, K k ∧ ∀ b ∈ g.O k ++ g.D k, W.heap.size ≤ b) (hx : PVR g w ag cs v) : OP w W.heap.size (nK g K) (ag, cts) v (g.F ks) := by
  cases ag with
  | true => obtain ⟨vs, rfl, h2⟩ := hx; exact .inl ⟨rfl, vs, rfl, resAVs_ok hI hK h hks h2⟩
  | false =>
    obtain ⟨x, rfl, h2⟩ := hx
    simp only [resAVs] at h
    obtain ⟨⟨c1, k1⟩, h1, h⟩ := Option.bind_eq_some_iff.1 h
    simp at h
    obtain ⟨rfl, rfl⟩ := h
    exact .inr ⟨rfl, c1, rfl, resAV_ok hI hK h1 hks h2⟩
/- what is given is said to be lent -/
theorem wkC_ok {B : Nat} {n : Nat → Prop} : ∀ {r res : List (Bool × CT)} {vs : List Value} {F : List Nat}, OCs w B n r vs F → wkC r res → F.Nodup → ∃ F', F'.Sublist F ∧ ∀ m : Nat → Prop, (∀ b ∈ F', n b → m b) → (∀ b, m b → n b) → (∀ b ∈ F, m b → b ∈ F') → OCs w B m res vs F'
  | [], [], vs, F, h, _, _ => ⟨[], by simp, fun m _ _ _ => ⟨h.1, rfl⟩⟩
  | [], _ :: _, _, _, _, h, _ => h.elim
  | _ :: _, [], _, _, _, h, _ => h.elim
  | x :: r, y :: res, _, _, ⟨v, vs, F1, F2, rfl, rfl, h1, h2⟩, ⟨e1, e2, hw⟩, hnd => by
    rw [List.nodup_append] at hnd
    obtain ⟨F2', s2, h2'⟩ := wkC_ok h2 hw hnd.2.1
    have key : ∃ F1', F1'.Sublist F1 ∧ ∀ m : Nat → Prop, (∀ b ∈ F1', n b → m b) → (∀ b, m b → n b) → (∀ b ∈ F1, m b → b ∈ F1') → OC w B m y v F1' := by
      obtain ⟨b1, x⟩ := x
      obtain ⟨b2, y⟩ := y
      simp only at e1 e2
      subst e1
      cases b1 with
      | true =>
        have : b2 = true := by rcases e2 with e | e <;> simp_all
        subst this
        obtain ⟨rfl, L, q1, q2⟩ := h1
        exact ⟨[], by simp, fun m _ m2 _ => ⟨rfl, L, q1, fun b mb hb => q2 b mb (m2 b hb)⟩⟩
      | false =>
        cases b2 with
        | false =>
          refine ⟨F1, List.Sublist.refl _, fun m m1 _ _ => ?_⟩
          cases x with
          | sl e q xs =>
            obtain ⟨hm, cs, L, o1, o2, o3, o4⟩ := h1
            exact ⟨hm, cs, L, o1, o2, o3, fun b mb => m1 b (by simp [o3, mb]) (o4 b mb)⟩
          | int k i => exact h1
          | bool b => exact h1
          | str s => exact h1
          | ifc s => exact h1
          | _ => exact h1.elim
        | true =>
          refine ⟨[], by simp, fun m _ _ m3 => ⟨rfl, ?_⟩⟩
          cases x with
          | sl e q xs =>
            obtain ⟨hm, cs, L, o1, o2, o3, o4⟩ := h1
            obtain ⟨A, cap, L0, s1, s2, s3, s4, s5⟩ := Sl.row o1
            refine ⟨L0 ++ L, ⟨A, cap, cs, L0, L, s1, s2, s3, rfl, hm, s4, o2⟩, fun b mb hb => ?_⟩
            have : b ∈ F1 := by
              rw [o3]
              rcases List.mem_append.1 mb with m1 | m1
              · exact List.mem_append.2 (.inl (s5.subset m1))
              · exact List.mem_append.2 (.inr m1)
            have := m3 b this hb
            simp at this
          | int k i => exact ⟨[], h1.1, by simp⟩
          | bool b => exact ⟨[], h1.1, by simp⟩
          | str s => exact ⟨[], h1.1, by simp⟩
          | ifc s => exact ⟨[], h1.1, by simp⟩
          | _ => exact h1.elim
    obtain ⟨F1', s1, h1'⟩ := key
    refine ⟨F1' ++ F2', List.Sublist.append s1 s2, fun m m1 m2 m3 => ⟨v, vs, F1', F2', rfl, rfl, h1' m (fun b mb => m1 b (by simp [mb])) m2 (fun b mb hb => ?_), h2' m (fun b mb => m1 b (by simp [mb])) m2 (fun b mb hb => ?_)⟩⟩
    · rcases List.mem_append.1 (m3 b (by simp [mb]) hb) with h | h
      · exact h
      · exact absurd rfl (hnd.2.2 b mb b (s2.subset h))
    · rcases List.mem_append.1 (m3 b (by simp [mb]) hb) with h | h
      · exact absurd rfl (hnd.2.2 b (s1.subset h) b mb)
      · exact h
theorem wkP_ok {B : Nat} {n : Nat → Prop} {x y : RT} {v : Value} {F : List Nat} (h : OP w B n x v F) (e1 : x.1 = y.1) (hw : wkC x.2 y.2) (hnd : F.Nodup) : ∃ F', F'.Sublist F ∧ ∀ m : Nat → Prop, (∀ b ∈ F', n b → m b) → (∀ b, m b → n b) → (∀ b ∈ F, m b → b ∈ F') → OP w B m y v F' := by
  rcases h with ⟨h1, vs, rfl, h2⟩ | ⟨h1, ct, h2, h3⟩
  · obtain ⟨F', s, h⟩ := wkC_ok h2 hw hnd
    exact ⟨F', s, fun m a b c => .inl ⟨e1 ▸ h1, vs, rfl, h m a b c⟩⟩
  · obtain ⟨F', s, h⟩ := wkC_ok (r := x.2) (vs := [v]) (F := F) (by rw [h2]; exact ⟨v, [], F, [], rfl, by simp, h3, rfl, rfl⟩) hw hnd
    refine ⟨F', s, fun m p1 p2 p3 => .inr ⟨e1 ▸ h1, ?_⟩⟩
    have h4 := h m p1 p2 p3
    generalize y.2 = l at h4 hw
    cases l with
    | nil => rw [h2] at hw; exact hw.elim
    | cons c l =>
      cases l with
      | nil =>
        obtain ⟨v', vs', F1, F2, q1, rfl, q3, q4⟩ := h4
        simp only [List.cons.injEq] at q1
        obtain ⟨rfl, rfl⟩ := q1
        obtain ⟨_, rfl⟩ := q4
        exact ⟨c, rfl, by simpa using q3⟩
      | cons _ _ => rw [h2] at hw; exact hw.2.2.elim
theorem wkR_ok {B : Nat} {n : Nat → Prop} : ∀ {r res : List RT} {vs : List Value} {F : List Nat}, OPs w B n r vs F → wkR r res → F.Nodup → ∃ F', F'.Sublist F ∧ ∀ m : Nat → Prop, (∀ b ∈ F', n b → m b) → (∀ b, m b → n b) → (∀ b ∈ F, m b → b ∈ F') → OPs w B m res vs F'
  | [], [], vs, F, h, _, _ => ⟨[], by simp, fun m _ _ _ => ⟨h.1, rfl⟩⟩
  | [], _ :: _, _, _, _, h, _ => h.elim
  | _ :: _, [], _, _, _, h, _ => h.elim
  | x :: r, y :: res, _, _, ⟨v, vs, F1, F2, rfl, rfl, h1, h2⟩, ⟨e1, e2, hw⟩, hnd => by
    rw [List.nodup_append] at hnd
    obtain ⟨F2', s2, h2'⟩ := wkR_ok h2 hw hnd.2.1
    obtain ⟨F1', s1, h1'⟩ := wkP_ok h1 e1 e2 hnd.1
    refine ⟨F1' ++ F2', List.Sublist.append s1 s2, fun m m1 m2 m3 => ⟨v, vs, F1', F2', rfl, rfl, h1' m (fun b mb => m1 b (by simp [mb])) m2 (fun b mb hb => ?_), h2' m (fun b mb => m1 b (by simp [mb])) m2 (fun b mb hb => ?_)⟩⟩
    · rcases List.mem_append.1 (m3 b (by simp [mb]) hb) with h | h
      · exact h
      · exact absurd rfl (hnd.2.2 b mb b (s2.subset h))
    · rcases List.mem_append.1 (m3 b (by simp [mb]) hb) with h | h
      · exact absurd rfl (hnd.2.2 b (s1.subset h) b mb)
      · exact h
def resRun (tmps : Array Value) : ResultVar → Sem Value
  | .tmp t => pure (tmps.getD t undef)
  | .cell b t => do loadVar t (← asAddr (tmps.getD b undef))
theorem results_eq (fn : Func) (tmps : Array Value) : results fn tmps = (do let vs ← fn.results.mapM (resRun tmps); pure (if h : vs.size = 1 then vs[0] else .tuple vs)) := by
  unfold results
  congr 1
theorem resOf_ok (htt : ∀ t i, tt t = some i → TOk P t i) (hI : HI W g st.ob w) (hS : ∀ t, SVR g w (st.sl t) (a.tmps.getD t undef)) (hU : StU U st) (hK : ∀ k, K k → mapB (st.ob k) = false ∧ ∀ e m xs d, st.ob k = .row e m xs d → d = 2) : ∀ {rs : List ResultVar} {res : List RT} {ks : List Nat}, resOf tt st rs = some (res, ks) → (∀ k ∈ ks, K k ∧ ∀ b ∈ g.O k ++ g.D k, W.heap.size ≤ b) →
    ∃ vs : List Value, (rs.mapM (resRun a.tmps)).run P w = .ok vs w ∧ OPs w W.heap.size (nK g K) res vs (g.F ks)
  | [], res, ks, h, _ => by
    simp only [resOf, Option.some.injEq, Prod.mk.injEq] at h
    obtain ⟨rfl, rfl⟩ := h
    exact ⟨[], by simp, rfl, by simp [Gh.F]⟩
  | .tmp t :: r, res, ks, h, hks => by
    simp only [resOf] at h
    split at h
    · rename_i ag cs hsl
      obtain ⟨⟨c1, k1⟩, h1, h⟩ := Option.bind_eq_some_iff.1 h
      obtain ⟨⟨c2, k2⟩, h2, h⟩ := Option.map_eq_some_iff.1 h
      simp only [Prod.mk.injEq] at h
      obtain ⟨rfl, rfl⟩ := h
      obtain ⟨vs, i1, i2⟩ := resOf_ok htt hI hS hU hK h2 (fun k mk => hks k (by simp [mk]))
      have hs := hS t
      rw [hsl] at hs
      refine ⟨a.tmps.getD t undef :: vs, ?_, _, vs, g.F k1, g.F k2, rfl, by simp [Gh.F], resPV_ok hI hK h1 (fun k mk => hks k (by simp [mk])) hs, i2⟩
      simp only [List.mapM_cons, resRun, Sem.run_bind, Sem.run_pure, Result.andThen_ok, i1]
    · simp at h
  | .cell t ty :: r, res, ks, h, hks => by
    simp only [resOf] at h
    split at h
    · rename_i ag cs hsl
      obtain ⟨⟨c1, k1⟩, h1, h⟩ := Option.bind_eq_some_iff.1 h
      obtain ⟨⟨c2, k2⟩, h2, h⟩ := Option.map_eq_some_iff.1 h
      simp only [Prod.mk.injEq] at h
      obtain ⟨rfl, rfl⟩ := h
      obtain ⟨vs, i1, i2⟩ := resOf_ok htt hI hS hU hK h2 (fun k mk => hks k (by simp [mk]))
      obtain ⟨cv, l1, l2, _⟩ := load_ok (P := P) (U := U) htt hI hU hsl (hS t)
      have hl : (do loadVar ty (← asAddr (a.tmps.getD t undef)) : Sem Value).run P w = .ok cv w := by
        have : ∃ b, a.tmps.getD t undef = .pointer (some b) := by
          have hs := hS t
          cases hsl' : st.sl t with
          | bp k off => rw [hsl'] at hs; obtain ⟨b, _, hv⟩ := hs; exact ⟨_, hv⟩
          | rp k m i off => rw [hsl'] at hs; obtain ⟨b, _, _, _, _, hv⟩ := hs; exact ⟨_, hv⟩
          | ep e off => rw [hsl'] at hs; obtain ⟨b, _, _, _, hv, _⟩ := hs; exact ⟨_, hv⟩
          | p ag2 cs2 =>
            rw [hsl'] at hs hsl
            cases ag2 with
            | true => simp [loadV] at hsl
            | false =>
              cases cs2 with
              | nil => simp [loadV] at hsl
              | cons y q =>
                cases q with
                | cons _ _ => cases y <;> first | (simp [loadV] at hsl; done) | (rename_i z; cases z <;> simp [loadV] at hsl)
                | nil => cases y with
                  | c z => cases z with
                    | pt e => obtain ⟨b, _, _, hv, _⟩ := pt_of hs; exact ⟨_, hv⟩
                    | _ => simp [loadV] at hsl
                  | _ => simp [loadV] at hsl
          | _ => rw [hsl'] at hsl; simp [loadV] at hsl
        obtain ⟨b, hb⟩ := this
        rw [hb] at l1 ⊢
        simpa [Instr.loadAt, Instr.sureAddr, asAddr] using l1
      refine ⟨cv :: vs, ?_, _, vs, g.F k1, g.F k2, rfl, by simp [Gh.F], resPV_ok hI hK h1 (fun k mk => hks k (by simp [mk])) l2, i2⟩
      have hl' : (resRun a.tmps (.cell t ty)).run P w = .ok cv w := hl
      simp only [List.mapM_cons, Sem.run_bind, hl', i1, Sem.run_pure, Result.andThen_ok]
    · simp at h
theorem ks_row : ∀ {xs : List AV} {cts : List (Bool × CT)} {ks : List Nat}, resAVs st xs = some (cts, ks) → ∀ k ∈ ks, ∃ e m xs, st.ob k = .row e m xs 2
  | [], _, _, h, k, mk => by
    simp only [resAVs, Option.some.injEq, Prod.mk.injEq] at h
    rw [← h.2] at mk; simp at mk
  | x :: r, cts, ks, h, k, mk => by
    simp only [resAVs] at h
    obtain ⟨⟨c1, k1⟩, h1, h⟩ := Option.bind_eq_some_iff.1 h
    obtain ⟨⟨c2, k2⟩, h2, h⟩ := Option.map_eq_some_iff.1 h
    simp only [Prod.mk.injEq] at h
    obtain ⟨rfl, rfl⟩ := h
    rcases List.mem_append.1 mk with mk | mk
    · cases x with
      | c y => cases y <;> simp only [resAV, Option.some.injEq, Prod.mk.injEq] at h1 <;> (rw [← h1.2] at mk; simp at mk)
      | row j =>
        simp only [resAV] at h1
        split at h1
        · rename_i e m xs d hk
          split at h1
          · rename_i hd
            simp only [Option.some.injEq, Prod.mk.injEq] at h1
            rw [← h1.2] at mk
            simp at mk
            subst mk
            exact ⟨e, m, xs, by rw [hk, hd]⟩
          · simp only [Option.some.injEq, Prod.mk.injEq] at h1
            rw [← h1.2] at mk; simp at mk
        · simp only [Option.some.injEq, Prod.mk.injEq] at h1
          rw [← h1.2] at mk; simp at mk
        · simp at h1
      | nil e m =>
        simp only [resAV] at h1
        split at h1
        · simp only [Option.some.injEq, Prod.mk.injEq] at h1
          rw [← h1.2] at mk; simp at mk
        · simp at h1
      | dead => simp [resAV] at h1
    · exact ks_row h2 k mk
theorem ks_rows : ∀ {rs : List ResultVar} {res : List RT} {ks : List Nat}, resOf tt st rs = some (res, ks) → ∀ k ∈ ks, ∃ e m xs, st.ob k = .row e m xs 2
  | [], _, _, h, k, mk => by
    simp only [resOf, Option.some.injEq, Prod.mk.injEq] at h
    rw [← h.2] at mk; simp at mk
  | .tmp t :: r, res, ks, h, k, mk => by
    simp only [resOf] at h
    split at h
    · obtain ⟨⟨c1, k1⟩, h1, h⟩ := Option.bind_eq_some_iff.1 h
      obtain ⟨⟨c2, k2⟩, h2, h⟩ := Option.map_eq_some_iff.1 h
      simp only [Prod.mk.injEq] at h
      obtain ⟨rfl, rfl⟩ := h
      rcases List.mem_append.1 mk with mk | mk
      · exact ks_row h1 k mk
      · exact ks_rows h2 k mk
    · simp at h
  | .cell t ty :: r, res, ks, h, k, mk => by
    simp only [resOf] at h
    split at h
    · obtain ⟨⟨c1, k1⟩, h1, h⟩ := Option.bind_eq_some_iff.1 h
      obtain ⟨⟨c2, k2⟩, h2, h⟩ := Option.map_eq_some_iff.1 h
      simp only [Prod.mk.injEq] at h
      obtain ⟨rfl, rfl⟩ := h
      rcases List.mem_append.1 mk with mk | mk
      · exact ks_row h1 k mk
      · exact ks_rows h2 k mk
    · simp at h
theorem arg_SVR {z : Nat → Prop} {x : Bool × List CT} {v : Value} (hg : ∀ b, g.own b → z b) (h : ArgR w z x v) : SVR g w (.p x.1 (x.2.map .c)) v := by
  rcases h with ⟨h1, vs, L, rfl, h2, h4⟩ | ⟨h1, ct, L, h2, h3, h4⟩
  · rw [h1]; exact ⟨vs, rfl, h2.avr fun b mb hb => h4 b mb (hg b hb)⟩
  · rw [h1, h2]; exact ⟨_, rfl, L, h3, fun b mb hb => h4 b mb (hg b hb)⟩
/-- the results of a call whose code has run to its end -/
theorem ret_ok (htt : ∀ t i, tt t = some i → TOk P t i) {fn : Func} {res : List RT} (hI : Inv W U st a w) (hH : HI W g st.ob w) (hS : ∀ t, SVR g w (st.sl t) (a.tmps.getD t undef)) {r : List RT} {ks : List Nat} (hx : resOf tt st fn.results.toList = some (r, ks)) (hnd : ks.Nodup) (hw : wkR r res)
    (hB : ∀ k ∈ ks, ∀ b ∈ g.O k ++ g.D k, W.heap.size ≤ b) (K0 : Nat → Prop) (hK0 : ∀ k, K0 k → mapB (st.ob k) = false ∧ ∀ e m xs d, st.ob k = .row e m xs d → d = 2) :
    ∃ v m, (results fn a.tmps).run P w = .ok v w ∧ ResR w W.heap.size m res v ∧ (∀ b, m b → g.own b) ∧ (∀ b, m b → g.Z b ∨ (∃ k, (k ∈ ks ∨ K0 k) ∧ b ∈ g.O k)) ∧ ∀ b, b ∉ g.F ks → (g.Z b ∨ ∃ k, K0 k ∧ b ∈ g.O k) → m b := by
  obtain ⟨us, r1, r2⟩ := resOf_ok (K := fun k => k ∈ ks ∨ K0 k) htt hH hS hI.wf (fun k hk => by
    rcases hk with hk | hk
    · obtain ⟨e', m', xs', h'⟩ := ks_rows hx k hk
      refine ⟨by rw [h']; rfl, fun e m xs d he => ?_⟩
      rw [he] at h'
      simp only [Ob.row.injEq] at h'
      exact h'.2.2.2
    · exact hK0 k hk) hx (fun k mk => ⟨.inl mk, hB k mk⟩)
  have hndF := hH.nodupF hnd
  obtain ⟨F', s, hF⟩ := wkR_ok r2 hw hndF
  have hge : ∀ b ∈ g.F ks, W.heap.size ≤ b := fun b mb => by
    obtain ⟨k, hk, mk⟩ := mem_F mb
    exact hB k hk b mk
  refine ⟨(if h : us.toArray.size = 1 then us.toArray[0] else .tuple us.toArray), fun b => nK g (fun k => k ∈ ks ∨ K0 k) b ∧ (b ∈ g.F ks → b ∈ F'), ?_, ⟨us, F', hF _ (fun b mb hb => ⟨hb, fun _ => mb⟩) (fun b hb => hb.1) (fun b mb hb => hb.2 mb), ⟨hndF.sublist s, fun b mb => hge b (s.subset mb), fun b mb => ?_⟩, rfl⟩, fun b hb => ?_, fun b hb => hb.1, fun b hb hn => ⟨?_, fun mb => absurd mb hb⟩⟩
  · rw [results_eq]
    have e : fn.results.mapM (resRun a.tmps) = List.toArray <$> fn.results.toList.mapM (resRun a.tmps) := by
      rw [← List.mapM_toArray]
    have e2 : (List.toArray <$> fn.results.toList.mapM (resRun a.tmps)).run P w = .ok us.toArray w := by
      rw [map_eq_pure_bind]
      simp only [Sem.run_bind, r1, Result.andThen_ok, Sem.run_pure]
    rw [e]
    simp only [Sem.run_bind, e2, Result.andThen_ok, Sem.run_pure]
  · obtain ⟨k, hk, mk⟩ := mem_F (s.subset mb)
    obtain ⟨e', m', xs', h'⟩ := ks_rows hx k hk
    have := (hH.plain k b mk).2
    rw [h'] at this
    exact this
  · rcases hb.1 with hz | ⟨k, _, mk⟩
    · exact .inr hz
    · exact .inl ⟨k, mk⟩
  · rcases hn with hz | ⟨k, hk, mk⟩
    · exact .inl hz
    · exact .inr ⟨k, .inr hk, mk⟩
/-- how the world's premise bears the changes of a call -/
structure JOk (J : World → Prop) (JF : Nat → Prop) : Prop where
  below : ∀ (x : Nat → Prop) (w w' : World), J w → (∀ b, x b → JF b) → w'.os = w.os → w'.tape = w.tape → w'.output = w.output → w.heap.size ≤ w'.heap.size → (∀ k, k < w.heap.size → ¬ x k → w'.heap[k]? = w.heap[k]?) → J w'
  new : ∀ (w : World) b, J w → w.heap.size ≤ b → JF b
theorem slot_arg {args : List (Bool × List CT)} {vs : List Value} {N t o : Nat} (h : vs.length ≤ N) (v : Value) (hv : vs[t]? = some v) : (vs.toArray ++ Array.replicate (N - vs.toArray.size) undef).getD t undef = v := by
  have hl : t < vs.length := (List.getElem?_eq_some_iff.1 hv).1
  simp only [Array.getD_eq_getD_getElem?, Array.getElem?_append, List.size_toArray, hl, if_true, List.getElem?_toArray, hv, Option.getD_some]
theorem slot_und {vs : List Value} {N t : Nat} (ht : vs.length ≤ t) : (vs.toArray ++ Array.replicate (N - vs.toArray.size) undef).getD t undef = undef := by
  simp only [Array.getD_eq_getD_getElem?, Array.getElem?_append, List.size_toArray, show ¬ t < vs.length by omega, if_false, Array.getElem?_replicate]
  split <;> rfl
theorem fn_sound (htt : ∀ t i, tt t = some i → TOk P t i) (hJ : JOk J JF) (hmix : P.follows .mixedOrders = true) {hds : FuncId → Nat} {f : FuncId} {fn : Func} {c : Code} {args : List (Bool × List CT)} {res : List RT} (hf : P.funcs[f]? = some fn) (hname : (fn.name == "runtime.NumGoroutine") = false) (hb : fn.body = some c)
    (hok : codeOk tt hds false fn.ntmps c = true) (hlen : Nat.ble args.length fn.ntmps = true) (h : fnS tt (SC P J JF hds) fn.results.toList c args res) : Sound P J f args res := by
  refine ⟨⟨fn, hf, hname, by rw [hb]; rfl⟩, fun w z vs hj hz hargs => ?_⟩
  have hlen' : args.length ≤ fn.ntmps := Nat.le_of_ble_eq_true hlen
  have hvl := hargs.len
  refine calls_of_wp hf hb ?_
  let W : Base := { w with z := z, x := fun _ => False, hv := none }
  let g0 : Gh := ⟨fun _ => undef, fun _ => [], fun _ => [], z⟩
  have hg0 : ∀ b, g0.own b → z b := fun b hb => by
    rcases hb with ⟨k, m⟩ | h
    · simp [g0] at m
    · exact h
  have hI0 : Inv W (fun _ => False) (argSt args) { tmps := vs.toArray ++ Array.replicate (fn.ntmps - vs.toArray.size) undef, defers := [] } w := by
    refine ⟨⟨g0, ⟨⟨rfl, rfl, rfl, Nat.le_refl _, fun _ _ _ => rfl⟩, fun k => ⟨rfl, rfl⟩, fun k => by simp [g0], fun k j _ b m => by simp [g0] at m, fun k b m => by simp [g0] at m, rfl, fun b hb => ⟨hz b hb, fun h => h⟩⟩, fun t => ?_⟩, ⟨fun t => ?_, fun k => trivial, fun k _ => rfl⟩, rfl, fun v hv => by simp [W] at hv⟩
    · show SVR g0 w (match args[t]? with | some x => .p x.1 (x.2.map .c) | none => .und) _
      cases ht : args[t]? with
      | none => exact slot_und (by have : args.length ≤ t := by simpa using ht
                                   omega)
      | some x =>
        obtain ⟨v, hv, hr⟩ := hargs.at ht
        show SVR g0 w (.p x.1 (x.2.map .c)) ((vs.toArray ++ Array.replicate (fn.ntmps - vs.toArray.size) undef).getD t undef)
        rw [slot_arg (args := args) (o := 0) (by omega) v hv]
        exact arg_SVR hg0 hr
    · show svU _ (match args[t]? with | some x => .p x.1 (x.2.map .c) | none => .und)
      split
      · exact svU_cs true _
      · trivial
  have hM : MOk P J JF W tt := ⟨htt, fun w' hb => hJ.below (fun _ => False) w w' hj (fun _ h => h.elim) hb.os hb.tape hb.output hb.size (fun k hk hx => hb.block k hk hx), fun b hb => hJ.new w b hj hb, fun b h => h.elim⟩
  refine swp_sound (W := W) hM hmix (.inl rfl) c hok (retK tt fn.results.toList fun _ r _ => wkR r res) _ ?_ _ (argSt args) _ w hI0 (fun _ _ h => h) (by simp; omega) h
  intro ex U' st' a' w' hI' _ _ hK
  have fin : (match resOf tt st' fn.results.toList with | some x => x.2.Nodup ∧ wkR x.1 res | none => False) → a'.defers = [] ∧ ∃ v, (results fn a'.tmps).run P w' = .ok v w' ∧ ∃ u n, Ending.returned v = .returned u ∧ ResR w' w.heap.size n res u ∧ (∀ b, z b → n b) ∧ Below w.heap.size w w' := fun hK => by
    split at hK
    · rename_i x hx
      obtain ⟨r, ks⟩ := x
      obtain ⟨hnd, hw⟩ := hK
      obtain ⟨g, hH, hS⟩ := hI'.ex
      have hBg : ∀ k ∈ ks, ∀ b ∈ g.O k ++ g.D k, W.heap.size ≤ b := fun k _ b mb => (hH.plain k b mb).1.resolve_right fun h => h
      obtain ⟨v, m, e1, e2, _, _, e4⟩ := ret_ok htt hI' hH hS hx hnd hw hBg (fun _ => False) (fun _ h => h.elim)
      have hbel := hH.below
      exact ⟨hI'.defers, v, e1, v, m, rfl, e2, fun b hb => e4 b (fun mb => by obtain ⟨k, hk, mk⟩ := mem_F mb; have := hBg k hk b mk; have := hz b hb; have e : W.heap.size = w.heap.size := rfl; omega) (.inl (by rw [hH.gz]; exact hb)), hbel.os, hbel.tape, hbel.output, hbel.size, fun k hk => hbel.block k hk fun h => h⟩
    · exact hK.elim
  cases ex with
  | normal => exact fin hK
  | exit id => exact hK.elim
  | ret => exact fin hK
theorem fn_soundB (htt : ∀ t i, tt t = some i → TOk P t i) (hJ : JOk J JF) (hmix : P.follows .mixedOrders = true) {hds : FuncId → Nat} {f : FuncId} {fn : Func} {c : Code} {args : List (Bool × List CT)} {nb : NB} (hf : P.funcs[f]? = some fn) (hname : (fn.name == "runtime.NumGoroutine") = false) (hb : fn.body = some c)
    (hok : codeOk tt hds false fn.ntmps c = true) (hlen : Nat.ble args.length fn.ntmps = true) (h : fnB tt (SC P J JF hds) fn.results.toList c args nb) : SoundB P J f args nb := by
  refine ⟨⟨fn, hf, hname, by rw [hb]; rfl⟩, fun w z vs hj hz hargs => ?_⟩
  have hlen' : args.length ≤ fn.ntmps := Nat.le_of_ble_eq_true hlen
  have hvl := hargs.len
  refine calls_of_wp hf hb ?_
  let W : Base := { w with z := z, x := fun _ => False, hv := none }
  let g0 : Gh := ⟨fun _ => undef, fun _ => [], fun _ => [], z⟩
  have hg0 : ∀ b, g0.own b → z b := fun b hb => by
    rcases hb with ⟨k, m⟩ | h
    · simp [g0] at m
    · exact h
  have hI0 : Inv W (fun _ => False) (argSt args) { tmps := vs.toArray ++ Array.replicate (fn.ntmps - vs.toArray.size) undef, defers := [] } w := by
    refine ⟨⟨g0, ⟨⟨rfl, rfl, rfl, Nat.le_refl _, fun _ _ _ => rfl⟩, fun k => ⟨rfl, rfl⟩, fun k => by simp [g0], fun k j _ b m => by simp [g0] at m, fun k b m => by simp [g0] at m, rfl, fun b hb => ⟨hz b hb, fun h => h⟩⟩, fun t => ?_⟩, ⟨fun t => ?_, fun k => trivial, fun k _ => rfl⟩, rfl, fun v hv => by simp [W] at hv⟩
    · show SVR g0 w (match args[t]? with | some x => .p x.1 (x.2.map .c) | none => .und) _
      cases ht : args[t]? with
      | none => exact slot_und (by have : args.length ≤ t := by simpa using ht
                                   omega)
      | some x =>
        obtain ⟨v, hv, hr⟩ := hargs.at ht
        show SVR g0 w (.p x.1 (x.2.map .c)) ((vs.toArray ++ Array.replicate (fn.ntmps - vs.toArray.size) undef).getD t undef)
        rw [slot_arg (args := args) (o := 0) (by omega) v hv]
        exact arg_SVR hg0 hr
    · show svU _ (match args[t]? with | some x => .p x.1 (x.2.map .c) | none => .und)
      split
      · exact svU_cs true _
      · trivial
  have hM : MOk P J JF W tt := ⟨htt, fun w' hb => hJ.below (fun _ => False) w w' hj (fun _ h => h.elim) hb.os hb.tape hb.output hb.size (fun k hk hx => hb.block k hk hx), fun b hb => hJ.new w b hj hb, fun b h => h.elim⟩
  refine swp_sound (W := W) hM hmix (.inl rfl) c hok (retB fn.results.toList nb) _ ?_ _ (argSt args) _ w hI0 (fun _ _ h => h) (by simp; omega) h
  intro ex U' st' a' w' hI' _ _ hK
  have fin : newBack st' fn.results.toList nb → a'.defers = [] ∧ ∃ v, (results fn a'.tmps).run P w' = .ok v w' ∧ ∃ (b : Nat) (n : Nat → Prop), Ending.returned v = .returned (nbVal b nb) ∧ w.heap.size ≤ b ∧ nbR w' n b nb ∧ n b ∧ (∀ x, z x → n x) ∧ Below w.heap.size w w' := fun hK => by
    unfold newBack at hK
    split at hK
    · rename_i s hrs
      have er : fn.results = #[.tmp s] := by
        have := congrArg List.toArray hrs
        simpa using this
      obtain ⟨g, hH, hS⟩ := hI'.ex
      have hs := hS s
      have hbel := hH.below
      cases nb with
      | box t cs =>
        obtain ⟨k, ds, k1, k2, k3, k4⟩ := hK
        rw [k1] at hs
        obtain ⟨b, b1, b2⟩ := hs
        have hob := hH.obs k
        rw [k2] at hob
        obtain ⟨b', us, o1, o2, o3, o4, o5⟩ := hob
        have hbb : b' = b := by rw [b1] at o1; simpa using o1.symm
        subst hbb
        obtain ⟨L, hL, hL2⟩ := avArgs_ok hH k4 o5
        have hno := hL2 fun y my => by
          have := List.all_eq_true.1 k3 y my
          cases y <;> simp [avNoRow] at this <;> trivial
        refine ⟨hI'.defers, _, ?_, b', fun x => g.own x, rfl, (hH.plain k b' (by simp [o2])).1.resolve_right fun h => h, ⟨us, L, o4, hL, hno⟩, .inl ⟨k, by simp [o2]⟩, fun x hx => .inr (by rw [hH.gz]; exact hx), hbel.os, hbel.tape, hbel.output, hbel.size, fun k hk => hbel.block k hk fun h => h⟩
        rw [results_eq, er]
        simp [resRun, b2, nbVal]
      | map kk vk kv =>
        obtain ⟨k, k1, k2⟩ := hK
        rw [k1] at hs
        obtain ⟨x, hx, hx3⟩ := hs
        simp only [List.cons.injEq, and_true] at hx
        subst hx
        obtain ⟨hx2, _⟩ := hx3
        have hob := hH.obs k
        rw [k2] at hob
        obtain ⟨b, es, c, o1, o2, o3, o4, o5⟩ := hob
        refine ⟨hI'.defers, _, ?_, b, fun x => g.own x, rfl, (hH.plain k b (by simp [o2])).1.resolve_right fun h => h, ⟨es, c, o4, o5⟩, .inl ⟨k, by simp [o2]⟩, fun x hx => .inr (by rw [hH.gz]; exact hx), hbel.os, hbel.tape, hbel.output, hbel.size, fun k hk => hbel.block k hk fun h => h⟩
        rw [results_eq, er]
        simp [resRun, hx2, o1, nbVal]
    · exact hK.elim
  cases ex with
  | normal => exact fin hK
  | exit id => exact hK.elim
  | ret => exact fin hK
theorem fn_soundH (htt : ∀ t i, tt t = some i → TOk P t i) (hJ : JOk J JF) (hmix : P.follows .mixedOrders = true) {hds : FuncId → Nat} {f : FuncId} {fn : Func} {c : Code} {h h' : Hand} {args : List (Bool × List CT)} {res : List RT} (hf : P.funcs[f]? = some fn) (hname : (fn.name == "runtime.NumGoroutine") = false) (hb : fn.body = some c)
    (hok : codeOk tt hds true fn.ntmps c = true) (hlen : Nat.blt args.length fn.ntmps = true) (hh : fnH tt (SC P J JF hds) fn.results.toList c h args res h') : SoundH P J JF f h args res h' := by
  refine ⟨⟨fn, hf, hname, by rw [hb]; rfl⟩, fun w z q v0 vs hj hqf hz hhand hargs => ?_⟩
  have hlen' : args.length < fn.ntmps := Nat.le_of_ble_eq_true hlen
  have hvl := hargs.len
  refine calls_of_wp hf hb ?_
  let W : Base := { w with z := z, x := fun b => q = some b, hv := some v0 }
  let g0 : Gh := ⟨fun k => if k = 0 then v0 else undef, fun k => if k = 0 then q.toList else [], fun _ => [], z⟩
  have hg0 : ∀ b, g0.own b → inQ z q b := fun b hb => by
    rcases hb with ⟨k, m⟩ | h
    · simp only [g0] at m
      split at m
      · exact .inr (by simpa using m)
      · simp at m
    · exact .inl h
  have hqlt : ∀ b, q = some b → ∃ cur e, w.heap[b]? = some (.cells cur e (0, 0)) := fun b hb => by
    cases h with
    | row e m xs =>
      obtain ⟨_, _, h3, cs, h4, _⟩ := hhand
      rcases h4.2 with ⟨h0, _⟩ | ⟨gg, o, cap, cur, hv, _, hcc, _⟩
      · rw [h0] at h3; simp [Value.ownBlock] at h3; rw [← h3] at hb; simp at hb
      · rw [hv] at h3; simp only [Value.ownBlock] at h3; rw [hb] at h3; simp at h3; subst h3; exact ⟨_, _, hcc⟩
    | box t cs =>
      obtain ⟨b', vs, L, h1, h2, h3, _⟩ := hhand
      rw [hb] at h1; simp at h1; subst h1
      exact ⟨_, _, h3⟩
  have hob0 : ObR g0 w 0 (handOb h) := by
    cases h with
    | row e m xs =>
      obtain ⟨h1, h2, h3, cs, h4, h5⟩ := hhand
      exact ⟨h2, cs, [], by simpa [g0] using h4, h5, .inl ⟨rfl, by simp [g0, h3], by simp [g0]⟩⟩
    | box t cs =>
      obtain ⟨b, vs, L, h1, h2, h3, h4, h5⟩ := hhand
      exact ⟨b, vs, by simpa [g0] using h2, by simp [g0, h1], by simp [g0], h3, h4.avr fun x mx hx => h5 x mx (hg0 x hx)⟩
  have hsv0 : SVR g0 w (handSV h) v0 := by
    cases h with
    | row e m xs =>
      obtain ⟨h1, h2, h3, cs, h4, h5⟩ := hhand
      obtain ⟨A, cap, hv⟩ := own_val h4
      exact ⟨_, rfl, by simp [g0], by simp [hv, Value.oneCell']⟩
    | box t cs =>
      obtain ⟨b, vs, L, h1, h2, h3, h4, h5⟩ := hhand
      exact ⟨b, by simpa [g0] using h2, h2⟩
  have hI0 : Inv W (fun k => k = 0) (handSt h args) { tmps := (v0 :: vs).toArray ++ Array.replicate (fn.ntmps - (v0 :: vs).toArray.size) undef, defers := [] } w := by
    refine ⟨⟨g0, ⟨⟨rfl, rfl, rfl, Nat.le_refl _, fun _ _ _ => rfl⟩, fun k => ?_, fun k => ?_, fun k j hkj b m => ?_, fun k b m => ?_, rfl, fun b hb => ⟨(hz b hb).1, (hz b hb).2⟩⟩, fun t => ?_⟩, ⟨fun t => ?_, fun k => ?_, fun k hk => by simp [handSt, hk]⟩, rfl, fun v hv => ?_⟩
    · show ObR g0 w k (if k = 0 then handOb h else .gone)
      by_cases hk : k = 0
      · subst hk; exact hob0
      · rw [if_neg hk]; exact ⟨by simp [g0, hk], rfl⟩
    · by_cases hk : k = 0
      · subst hk; cases q <;> simp [g0]
      · simp [g0, hk]
    · by_cases hk : k = 0
      · have : ¬ j = 0 := fun e => hkj (by omega)
        simp [g0, this]
      · simp [g0, hk] at m
    · by_cases hk : k = 0
      · subst hk
        have hb : q = some b := by simpa [g0] using m
        refine ⟨.inr hb, ?_⟩
        have hp : ∃ cur e, w.heap[b]? = some (.cells cur e (0, 0)) := hqlt b hb
        show PlainAt w (if 0 = 0 then handOb h else .gone) b
        rw [if_pos rfl]
        cases h <;> exact hp
      · simp [g0, hk] at m
    · show SVR g0 w (match t with | 0 => handSV h | t + 1 => (match args[t]? with | some x => .p x.1 (x.2.map .c) | none => .und)) _
      cases t with
      | zero =>
        show SVR g0 w (handSV h) (((v0 :: vs).toArray ++ Array.replicate (fn.ntmps - (v0 :: vs).toArray.size) undef).getD 0 undef)
        rw [slot_arg (args := args) (o := 0) (by simp; omega) v0 rfl]
        exact hsv0
      | succ t =>
        show SVR g0 w (match args[t]? with | some x => .p x.1 (x.2.map .c) | none => .und) _
        cases ht : args[t]? with
        | none => exact slot_und (by have : args.length ≤ t := by simpa using ht
                                     simp; omega)
        | some x =>
          obtain ⟨v, hv, hr⟩ := hargs.at ht
          show SVR g0 w (.p x.1 (x.2.map .c)) (((v0 :: vs).toArray ++ Array.replicate (fn.ntmps - (v0 :: vs).toArray.size) undef).getD (t + 1) undef)
          rw [slot_arg (args := args) (o := 0) (by simp; omega) v (by simpa using hv)]
          exact arg_SVR hg0 hr
    · show svU _ (match t with | 0 => handSV h | t + 1 => (match args[t]? with | some x => .p x.1 (x.2.map .c) | none => .und))
      cases t with
      | zero => cases h with
        | row e m xs => intro y my; simp at my; subst my; rfl
        | box t cs => rfl
      | succ t =>
        show svU _ (match args[t]? with | some x => .p x.1 (x.2.map .c) | none => .und)
        split
        · exact svU_cs true _
        · trivial
    · show obU _ (if k = 0 then handOb h else .gone)
      by_cases hk : k = 0
      · rw [if_pos hk]
        cases h with
        | row e m xs => trivial
        | box t cs => exact svU_cs true _
      · rw [if_neg hk]; trivial
    · have : v0 = v := by simpa [W] using hv
      subst this
      exact slot_arg (args := args) (o := 0) (by simp; omega) v0 rfl
  have hM : MOk P J JF W tt := ⟨htt, fun w' hb => hJ.below (fun b => q = some b) w w' hj hqf hb.os hb.tape hb.output hb.size (fun k hk hx => hb.block k hk hx), fun b hb => hJ.new w b hj hb, hqf⟩
  refine swp_sound (W := W) hM hmix (.inr rfl) c hok (retK tt fn.results.toList fun st r ks => wkR r res ∧ handBack st ks h') _ ?_ _ (handSt h args) _ w hI0 (fun k hk h0 => by simp [handSt] at hk; omega) (by simp; omega) hh
  intro ex U' st' a' w' hI' _ _ hK
  have fin : (match resOf tt st' fn.results.toList with | some x => x.2.Nodup ∧ wkR x.1 res ∧ handBack st' x.2 h' | none => False) → a'.defers = [] ∧ ∃ v, (results fn a'.tmps).run P w' = .ok v w' ∧ ∃ u n, Ending.returned v = .returned u ∧ ResR w' w.heap.size n res u ∧ (∀ b, inQ z q b → n b) ∧ HandR w' n q h' v0 ∧ BelQ q w w' := fun hK => by
    split at hK
    · rename_i x hx
      obtain ⟨r, ks⟩ := x
      obtain ⟨hnd, hw, hbk⟩ := hK
      obtain ⟨g, hH, hS⟩ := hI'.ex
      have hv0 : a'.tmps.getD 0 undef = v0 := hI'.hand v0 rfl
      have hS0 := hS 0
      rw [hv0] at hS0
      -- the key of what was handed in
      have hkey : ∃ k, g.val k = v0 ∧ g.O k = q.toList ∧ g.D k = [] ∧ k ∉ ks ∧ (mapB (st'.ob k) = false ∧ ∀ e m xs d, st'.ob k = .row e m xs d → d = 2) ∧ ∀ n : Nat → Prop, (∀ b, n b → g.own b) → HandR w' n q h' v0 := by
        cases h' with
        | row e m xs =>
          obtain ⟨k, hk1, hk2, hk3, hk4⟩ := hbk
          rw [hk1] at hS0
          obtain ⟨x, hx1, hx2⟩ := hS0
          simp only [List.cons.injEq, and_true] at hx1
          subst hx1
          have hob := hH.obs k
          rw [hk2] at hob
          obtain ⟨hm, cs, L, o1, o2, o3⟩ := hob
          obtain rfl := REs_flat o2 hk3
          rcases o3 with ⟨_, q1, q2⟩ | ⟨q1, _⟩ | ⟨q1, _⟩
          · have hq : v0.ownBlock = q := by
              cases h with
              | row e1 m1 xs1 => exact hhand.2.2.1
              | box t1 cs1 =>
                obtain ⟨b, vs, L, h1, h2, _⟩ := hhand
                obtain ⟨A, cap, hv⟩ := own_val o1
                rw [← hx2.1, h2] at hv
                simp at hv
            exact ⟨k, hx2.1.symm, by rw [q1, ← hx2.1, hq], q2, hk4, ⟨by rw [hk2]; rfl, fun e' m' xs' d' h => by rw [hk2] at h; simp only [Ob.row.injEq] at h; exact h.2.2.2.symm⟩, fun n _ => ⟨hk3, hm, hq, cs, by rw [hx2.1]; exact o1, o2⟩⟩
          · omega
          · omega
        | box t cs =>
          obtain ⟨k, ds, hk1, hk2, hk3, hk4⟩ := hbk
          rw [hk1] at hS0
          obtain ⟨b, hb1, hb2⟩ := hS0
          have hob := hH.obs k
          rw [hk2] at hob
          obtain ⟨b', vs', o1, o2, o3, o4, o5⟩ := hob
          have hbb : b' = b := by rw [hb1] at o1; simpa using o1.symm
          subst hbb
          have hq : q = some b' := by
            cases h with
            | row e1 m1 xs1 =>
              obtain ⟨_, _, _, cs1, h4, _⟩ := hhand
              obtain ⟨A, cap, hv⟩ := own_val h4
              rw [hv] at hb2
              simp at hb2
            | box t1 cs1 =>
              obtain ⟨b2, vs2, L2, h1, h2, _⟩ := hhand
              rw [h2] at hb2
              simp at hb2
              rw [h1, hb2]
          obtain ⟨L, hL, hL2⟩ := avArgs_ok hH hk4 o5
          refine ⟨k, by rw [o1, hb2], by rw [o2, hq]; rfl, o3, fun mk => ?_, ⟨by rw [hk2]; rfl, fun e' m' xs' d' h => by rw [hk2] at h; simp at h⟩, fun n hn => ⟨b', vs', L, hq, hb2, o4, hL, fun x mx hx => hL2 (fun y my => ?_) x mx (hn x hx)⟩⟩
          · obtain ⟨e', m', xs', h'⟩ := ks_rows hx k mk
            rw [hk2] at h'
            simp at h'
          · have := List.all_eq_true.1 hk3 y my
            cases y <;> simp [avNoRow] at this <;> trivial
      obtain ⟨k0, c1, c2, c3, c4, c5, c6⟩ := hkey
      have hBg : ∀ k ∈ ks, ∀ b ∈ g.O k ++ g.D k, W.heap.size ≤ b := fun k hk b mb => (hH.plain k b mb).1.resolve_right fun h => hH.apart k k0 (fun e => c4 (e ▸ hk)) b mb (by rw [c2]; simp; exact .inl h)
      obtain ⟨v, m, e1, e2, e3, _, e4⟩ := ret_ok htt hI' hH hS hx hnd hw hBg (fun k => k = k0) (fun k hk => hk ▸ c5)
      have hbel := hH.below
      refine ⟨hI'.defers, v, e1, v, m, rfl, e2, fun b hb => ?_, c6 m e3, hbel.os, hbel.tape, hbel.output, hbel.size, fun k hk hq => hbel.block k hk hq⟩
      refine e4 b (fun mb => ?_) ?_
      · obtain ⟨k, hk, mk⟩ := mem_F mb
        have hge := hBg k hk b mk
        have e : W.heap.size = w.heap.size := rfl
        rcases hb with hb | hb
        · have := (hz b hb).1; omega
        · obtain ⟨cur, e', hc⟩ := hqlt b hb
          have := (Array.getElem?_eq_some_iff.1 hc).1
          omega
      · rcases hb with hb | hb
        · exact .inl (by rw [hH.gz]; exact hb)
        · exact .inr ⟨k0, rfl, by rw [c2, hb]; simp⟩
    · exact hK.elim
  cases ex with
  | normal => exact fin hK
  | exit id => exact hK.elim
  | ret => exact fin hK
end
end Go.Proofs.YtppjenkjopjeiaaDoor

namespace Go.Proofs.YtppjenkjopjeiaaDoor
open Go.RowKit
def all2B {α β : Type} (f : α → β → Bool) : List α → List β → Bool
  | [], [] => true
  | a :: l, b :: r => f a b && all2B f l r
  | _, _ => false
theorem all2B_ok {α β : Type} {f : α → β → Bool} {R : α → β → Prop} (h : ∀ a b, f a b = true → R a b) : ∀ {l : List α} {r : List β}, all2B f l r = true → All2 R l r
  | [], [], _ => trivial
  | a :: l, b :: r, hh => by
    simp only [all2B, Bool.and_eq_true] at hh
    exact ⟨h a b hh.1, all2B_ok h hh.2⟩
  | [], _ :: _, hh => by simp [all2B] at hh
  | _ :: _, [], hh => by simp [all2B] at hh
def fieldB (P : Program) (fi : FI) (f : Field) : Bool :=
  f.offset == fi.off && !(fi.size == 0) && match P.info? f.type, P.underlying f.type with
    | some j, some d => j.size == fi.size && (aggD d == fi.agg)
    | _, _ => false
def nilB : Value → Bool
  | .slice none 0 0 => true
  | _ => false
def eqFB (P : Program) : List PK → List Field → Nat → Bool
  | [], [], _ => true
  | k :: ks, f :: fs, n => (f.name != "_") && (f.offset == n) && (match P.underlying f.type with | some d => kindP k d | none => false) && eqFB P ks fs (n + 1)
  | _, _, _ => false
theorem eqFB_ok {P : Program} : ∀ {ks : List PK} {fs : List Field} {n : Nat}, eqFB P ks fs n = true → EqF P ks fs n
  | [], [], _, _ => trivial
  | k :: ks, f :: fs, n, h => by
    simp only [eqFB, Bool.and_eq_true, bne_iff_ne, beq_iff_eq] at h
    obtain ⟨⟨⟨h1, h2⟩, h3⟩, h4⟩ := h
    split at h3
    · rename_i d hd; exact ⟨h1, h2, ⟨d, hd, h3⟩, eqFB_ok h4⟩
    · simp at h3
  | [], _ :: _, _, h => by simp [eqFB] at h
  | _ :: _, [], _, h => by simp [eqFB] at h
def isStructD : Option TypeDesc → Bool
  | some (.struct _) => true
  | _ => false
def eqsB (P : Program) (t : TypeId) (ks : List PK) : Bool :=
  Nat.ble 4000 t && isStructD (P.underlying (t - 4000)) && !(P.stoodInHeld (t - 4000)) && !(P.eqGuardType P.depth (t - 4000)) && eqFB P ks (P.fieldsOf (t - 4000)).toList 0
theorem eqsB_ok {P : Program} {t : TypeId} {ks : List PK} (h : eqsB P t ks = true) : TOk P t (.eqs ks) := by
  simp only [eqsB, Bool.and_eq_true, Bool.not_eq_true'] at h
  obtain ⟨⟨⟨⟨h1, h2⟩, h3⟩, h4⟩, h5⟩ := h
  refine ⟨t - 4000, ?_, ?_, h3, h4, eqFB_ok h5⟩
  · have : 4000 ≤ t := Nat.le_of_ble_eq_true h1
    exact (Nat.sub_add_cancel this).symm
  · unfold isStructD at h2
    split at h2
    · rename_i fs e
      unfold Program.fieldsOf
      rw [e]
    · simp at h2
def tOk (P : Program) (t : TypeId) (ti : TI) : Bool :=
  match ti with
  | .eqs ks => eqsB P t ks
  | _ =>
  match P.underlying t, P.info? t with
  | some d, some i => match ti with
    | .atom z => kindB d z && i.size == 1 && match i.zero with | some zv => constB z zv | none => false
    | .strct fs n z => match d with
      | .struct fields => i.size == n && (match i.zero with | some (.agg zvs) => all2B constB z zvs.toList | _ => false) && all2B (fieldB P) fs fields.toList
      | _ => false
    | .slice e m bytes z => match d with
      | .slice e' => e == e' && Nat.blt 0 m && Nat.ble bytes 131072 && (match P.info? e with
          | some ie => ie.size == m && ie.bytes == bytes && (match ie.zero with | some zv => all2B constB z zv.cells.toList | none => false)
          | none => false) && z.length == m && i.size == 1 && (match i.zero with | some zv => nilB zv | none => false)
      | _ => false
    | .map kk vk => match d with
      | .map kt et => (match P.underlying kt with | some dk => kindP kk dk | none => false) && (match P.underlying et with | some dv => kindP vk dv | none => false) && (match P.info? et with | some ie => (match ie.zero with | some zv => constB (zeroPK vk) zv | none => false) | none => false)
      | _ => false
    | .ifc => match d with
      | .interface _ => true
      | _ => false
    | .eqs _ => false
  | _, _ => false
theorem nilB_ok {v : Value} (h : nilB v = true) : v = .slice none 0 0 := by
  unfold nilB at h
  split at h
  · rfl
  · simp at h
theorem tOk_ok {P : Program} {t : TypeId} {ti : TI} (h : tOk P t ti = true) : TOk P t ti := by
  unfold tOk at h
  split at h
  · exact eqsB_ok h
  split at h
  · rename_i d i hd hi
    cases ti with
    | eqs ks => simp at h
    | ifc =>
      simp only at h
      split at h
      · exact ⟨_, hd⟩
      · simp at h
    | map kk vk =>
      simp only at h
      split at h
      · rename_i kt et
        simp only [Bool.and_eq_true] at h
        obtain ⟨⟨h1, h2⟩, h3⟩ := h
        split at h1
        · rename_i dk hdk
          split at h2
          · rename_i dv hdv
            split at h3
            · rename_i ie hie
              split at h3
              · rename_i zv hz
                exact ⟨kt, et, dk, dv, ie, zv, hd, hdk, h1, hdv, h2, hie, hz, h3⟩
              · simp at h3
            · simp at h3
          · simp at h2
        · simp at h1
      · simp at h
    | atom z =>
      simp only [Bool.and_eq_true, beq_iff_eq] at h
      obtain ⟨⟨h1, h2⟩, h3⟩ := h
      split at h3
      · rename_i zv hz; exact ⟨d, zv, i, hd, h1, hi, hz, h2, h3⟩
      · simp at h3
    | strct fs n z =>
      simp only at h
      split at h
      · rename_i fields
        simp only [Bool.and_eq_true, beq_iff_eq] at h
        obtain ⟨⟨h1, h2⟩, h3⟩ := h
        split at h2
        · rename_i zvs hz
          refine ⟨fields, i, zvs, hd, hi, h1, hz, all2B_ok (fun _ _ h => h) h2, all2B_ok (fun fi f hf => ?_) h3⟩
          unfold fieldB at hf
          simp only [Bool.and_eq_true, beq_iff_eq, Bool.not_eq_true', beq_eq_false_iff_ne] at hf
          obtain ⟨⟨f1, f2⟩, f3⟩ := hf
          split at f3
          · rename_i j d' hj hd'
            simp only [Bool.and_eq_true, beq_iff_eq] at f3
            exact ⟨f1, f2, j, d', hj, f3.1, hd', f3.2⟩
          · simp at f3
        · simp at h2
      · simp at h
    | slice e m bytes z =>
      simp only at h
      split at h
      · rename_i e'
        simp only [Bool.and_eq_true, beq_iff_eq] at h
        obtain ⟨⟨⟨⟨⟨⟨h1, h2⟩, h3⟩, h4⟩, h5⟩, h6⟩, h7⟩ := h
        subst h1
        split at h4
        · rename_i ie hie
          simp only [Bool.and_eq_true, beq_iff_eq] at h4
          obtain ⟨⟨k1, k2⟩, k3⟩ := h4
          split at k3
          · rename_i zv hz
            split at h7
            · rename_i zv' hz'
              exact ⟨hd, Nat.le_of_ble_eq_true h2, Nat.le_of_ble_eq_true h3, ⟨ie, zv, hie, k1, k2, hz, all2B_ok (fun _ _ h => h) k3, h5⟩, i, hi, h6, by rw [hz', nilB_ok h7]⟩
            · simp at h7
          · simp at k3
        · simp at h4
      · simp at h
  · simp at h
def look : List (Nat × TI) → Nat → Option TI
  | [], _ => none
  | p :: r, t => if p.1 = t then some p.2 else look r t
theorem tts_ok {P : Program} : ∀ (l : List (Nat × TI)), (l.all fun p => tOk P p.1 p.2) = true → ∀ t i, look l t = some i → TOk P t i
  | [], _, t, i, h => by simp [look] at h
  | p :: r, ha, t, i, h => by
    simp only [List.all_cons, Bool.and_eq_true] at ha
    simp only [look] at h
    split at h
    · rename_i e
      simp only [Option.some.injEq] at h
      subst h e
      exact tOk_ok ha.1
    · exact tts_ok r ha.2 t i h
end Go.Proofs.YtppjenkjopjeiaaDoor

namespace Go.Proofs.YtppjenkjopjeiaaDoor
open Go.RowKit
/-- each listed variable holds what its test says -/
def LaidJ (P : Program) (L : List (String × (Array Value → Prop))) (w : World) : Prop := ∀ x ∈ L, ∃ cs, w.var? P x.1 = some cs ∧ x.2 cs
def LaidF (P : Program) (L : List (String × (Array Value → Prop))) (b : Nat) : Prop := ∀ x ∈ L, ¬ P.globalNamed x.1 = some b
theorem laid_ok (P : Program) (L : List (String × (Array Value → Prop))) : JOk (LaidJ P L) (LaidF P L) where
  below := fun x w w' hj hx _ _ _ hs hb y my => by
    obtain ⟨cs, h1, h2⟩ := hj y my
    refine ⟨cs, ?_, h2⟩
    unfold World.var? at h1 ⊢
    obtain ⟨g, hg, h1⟩ := Option.bind_eq_some_iff.1 h1
    rw [hg, Option.bind_some]
    have hlt : g < w.heap.size := by
      rcases Nat.lt_or_ge g w.heap.size with h | h
      · exact h
      · rw [Array.getElem?_eq_none h] at h1; simp at h1
    rw [hb g hlt (fun h => hx g h y my hg)]
    exact h1
  new := fun w b hj hb y my hg => by
    obtain ⟨cs, h1, _⟩ := hj y my
    unfold World.var? at h1
    rw [hg, Option.bind_some, Array.getElem?_eq_none hb] at h1
    simp at h1
theorem jok_below {J : World → Prop} {JF : Nat → Prop} (h : JOk J JF) {w w' : World} (hj : J w) (hb : Below w.heap.size w w') : J w' :=
  h.below (fun _ => False) w w' hj (fun _ h => h.elim) hb.os hb.tape hb.output hb.size fun k hk _ => hb.block k hk
theorem resv_one {w : World} {B : Nat} {n : Nat → Prop} {ct : CT} {v : Value} (h : OC w B n (false, ct) v []) : ResR w B n [(false, [(false, ct)])] v :=
  ⟨[v], [], ⟨v, [], [], [], rfl, rfl, .inr ⟨rfl, _, rfl, h⟩, rfl, rfl⟩, Own.nil _ _, by simp⟩
theorem resv_two {w : World} {B : Nat} {n : Nat → Prop} {c1 c2 : CT} {v1 v2 : Value} (h1 : OC w B n (false, c1) v1 []) (h2 : OC w B n (false, c2) v2 []) : ResR w B n [(false, [(false, c1)]), (false, [(false, c2)])] (.tuple #[v1, v2]) :=
  ⟨[v1, v2], [], ⟨v1, [v2], [], [], rfl, rfl, .inr ⟨rfl, _, rfl, h1⟩, v2, [], [], [], rfl, rfl, .inr ⟨rfl, _, rfl, h2⟩, rfl, rfl⟩, Own.nil _ _, by simp⟩
theorem arg_one {w : World} {z : Nat → Prop} {c : CT} {v : Value} (h : ArgR w z (false, [c]) v) : ∃ L, RC w c v L := by
  rcases h with ⟨h, _⟩ | ⟨_, ct, L, h, hr, _⟩
  · simp at h
  · simp only [List.cons.injEq, and_true] at h
    subst h
    exact ⟨L, hr⟩
theorem args_one {w : World} {z : Nat → Prop} {c : CT} {vs : List Value} (h : All2 (ArgR w z) [(false, [c])] vs) : ∃ v L, vs = [v] ∧ RC w c v L := by
  cases vs with
  | nil => exact h.elim
  | cons v r =>
    cases r with
    | nil => obtain ⟨L, hr⟩ := arg_one h.1; exact ⟨v, L, rfl, hr⟩
    | cons _ _ => exact h.2.elim
theorem args_two {w : World} {z : Nat → Prop} {c d : CT} {vs : List Value} (h : All2 (ArgR w z) [(false, [c]), (false, [d])] vs) : ∃ v u L M, vs = [v, u] ∧ RC w c v L ∧ RC w d u M := by
  cases vs with
  | nil => exact h.elim
  | cons v r =>
    obtain ⟨u, M, rfl, hu⟩ := args_one h.2
    obtain ⟨L, hr⟩ := arg_one h.1
    exact ⟨v, u, L, M, rfl, hr, hu⟩
end Go.Proofs.YtppjenkjopjeiaaDoor

namespace Go.Proofs.YtppjenkjopjeiaaDoor
open Go.RowKit
def ttL : List (Nat × TI) := [
  (2, .atom (.c (.int .i64 0))),
  (3, .atom (.c (.int .i64 0))),
  (4, .atom (.c (.bool false))),
  (5, .atom (.c (.int .u8 0))),
  (9, .atom (.c (.str ⟨#[]⟩))),
  (12, .atom (.c (.int .u64 0))),
  (14, .strct [⟨0, 1, false⟩, ⟨1, 1, false⟩] 2 [.c (.str ⟨#[]⟩), .c (.int .u64 0)]),
  (20, .ifc),
  (21, .atom (.c (.int .i32 0))),
  (23, .strct [⟨0, 1, false⟩, ⟨1, 1, false⟩, ⟨2, 1, false⟩] 3 [.c (.str ⟨#[]⟩), .c (.int .i64 0), .c (.str ⟨#[]⟩)]),
  (26, .strct [⟨0, 1, false⟩, ⟨1, 1, false⟩, ⟨2, 1, false⟩] 3 [.c (.str ⟨#[]⟩), .c (.int .i64 0), .c (.str ⟨#[]⟩)]),
  (29, .slice 9 1 16 [.c (.str ⟨#[]⟩)]),
  (31, .strct [⟨0, 1, false⟩, ⟨1, 1, false⟩] 2 [.c (.str ⟨#[]⟩), .nil 9 1]),
  (32, .slice 3 1 8 [.c (.int .i64 0)]),
  (34, .strct [⟨0, 2, true⟩, ⟨2, 1, false⟩, ⟨3, 1, false⟩] 4 [.c (.str ⟨#[]⟩), .nil 9 1, .c (.str ⟨#[]⟩), .nil 3 1]),
  (37, .strct [⟨0, 1, false⟩, ⟨1, 1, false⟩] 2 [.c (.str ⟨#[]⟩), .nil 9 1]),
  (39, .strct [⟨0, 2, true⟩, ⟨2, 1, false⟩, ⟨3, 1, false⟩] 4 [.c (.str ⟨#[]⟩), .nil 9 1, .c (.str ⟨#[]⟩), .nil 3 1]),
  (43, .slice 104 3 56 [.c (.int .i64 0), .nil 3 1, .nil 3 1]),
  (45, .strct [⟨0, 1, false⟩, ⟨1, 1, false⟩] 2 [.c (.int .i64 0), .nil 104 3]),
  (47, .strct [⟨0, 2, true⟩, ⟨2, 1, false⟩, ⟨3, 1, false⟩] 4 [.c (.int .i64 0), .nil 104 3, .nil 3 1, .nil 3 1]),
  (50, .slice 99 3 56 [.c (.int .i64 0), .nil 3 1, .nil 3 1]),
  (52, .strct [⟨0, 1, false⟩, ⟨1, 1, false⟩] 2 [.c (.int .i64 0), .nil 99 3]),
  (54, .strct [⟨0, 2, true⟩, ⟨2, 1, false⟩, ⟨3, 1, false⟩] 4 [.c (.int .i64 0), .nil 99 3, .nil 3 1, .nil 3 1]),
  (58, .slice 34 4 80 [.c (.str ⟨#[]⟩), .nil 9 1, .c (.str ⟨#[]⟩), .nil 3 1]),
  (60, .slice 37 2 40 [.c (.str ⟨#[]⟩), .nil 9 1]),
  (62, .slice 39 4 80 [.c (.str ⟨#[]⟩), .nil 9 1, .c (.str ⟨#[]⟩), .nil 3 1]),
  (89, .slice 5 1 1 [.c (.int .u8 0)]),
  (99, .strct [⟨0, 1, false⟩, ⟨1, 1, false⟩, ⟨2, 1, false⟩] 3 [.c (.int .i64 0), .nil 3 1, .nil 3 1]),
  (104, .strct [⟨0, 1, false⟩, ⟨1, 1, false⟩, ⟨2, 1, false⟩] 3 [.c (.int .i64 0), .nil 3 1, .nil 3 1]),
  (110, .ifc),
  (111, .ifc),
  (123, .atom (.c (.int .u64 0))),
  (134, .atom (.c (.int .u32 0))),
  (137, .atom (.c (.int .u64 0))),
  (158, .strct [⟨0, 1, false⟩] 1 [.c (.str ⟨#[]⟩)])]
def tt (t : Nat) : Option TI := look ttL t
theorem htt : ∀ t i, tt t = some i → TOk Tryd.prog t i := tts_ok ttL (by kernel_rfl)
theorem hmix : Tryd.prog.follows .mixedOrders = true := by kernel_rfl
def tabL : List (String × (Array Value → Prop)) := [("internal/strconv.uint64pow10", fun cs => cs = (Lib.pow10Tab.map fun z => Value.int .u64 z).toArray), ("strconv.ErrSyntax", fun cs => ∃ tp p, cs = #[.iface tp p])]
def J0 : World → Prop := LaidJ Tryd.prog tabL
def JF0 : Nat → Prop := LaidF Tryd.prog tabL
theorem hJ0 : JOk J0 JF0 := laid_ok _ _
theorem j0_pow (w : World) (h : J0 w) : Lib.TabIs Tryd.prog w "internal/strconv.uint64pow10" .u64 Lib.pow10Tab := by
  obtain ⟨cs, h1, h2⟩ := h _ (List.mem_cons_self ..)
  rw [h2] at h1
  exact h1
theorem j0_err (w : World) (h : J0 w) : ∃ tp p, w.var? Tryd.prog "strconv.ErrSyntax" = some #[.iface tp p] := by
  obtain ⟨cs, h1, tp, p, h2⟩ := h ("strconv.ErrSyntax", fun cs => ∃ tp p, cs = #[.iface tp p]) (by simp [tabL])
  rw [h2] at h1
  exact ⟨tp, p, h1⟩
def hdL : List (Nat × Nat) := []
def hlook : List (Nat × Nat) → Nat → Nat
  | [], _ => 0
  | p :: r, f => match Nat.beq p.1 f with | true => p.2 | false => hlook r f
def hds (f : FuncId) : Nat := hlook hdL f
theorem hd_8 : (SC Tryd.prog J0 JF0 hds).hd 8 = 0 := _root_.id (by kernel_rfl)
theorem hd_10 : (SC Tryd.prog J0 JF0 hds).hd 10 = 0 := _root_.id (by kernel_rfl)
theorem hd_12 : (SC Tryd.prog J0 JF0 hds).hd 12 = 0 := _root_.id (by kernel_rfl)
theorem hd_14 : (SC Tryd.prog J0 JF0 hds).hd 14 = 0 := _root_.id (by kernel_rfl)
theorem hd_17 : (SC Tryd.prog J0 JF0 hds).hd 17 = 0 := _root_.id (by kernel_rfl)
theorem hd_19 : (SC Tryd.prog J0 JF0 hds).hd 19 = 0 := _root_.id (by kernel_rfl)
theorem hd_22 : (SC Tryd.prog J0 JF0 hds).hd 22 = 0 := _root_.id (by kernel_rfl)
theorem hd_24 : (SC Tryd.prog J0 JF0 hds).hd 24 = 0 := _root_.id (by kernel_rfl)
theorem hd_30 : (SC Tryd.prog J0 JF0 hds).hd 30 = 0 := _root_.id (by kernel_rfl)
theorem hd_31 : (SC Tryd.prog J0 JF0 hds).hd 31 = 0 := _root_.id (by kernel_rfl)
theorem hd_34 : (SC Tryd.prog J0 JF0 hds).hd 34 = 0 := _root_.id (by kernel_rfl)
theorem hd_35 : (SC Tryd.prog J0 JF0 hds).hd 35 = 0 := _root_.id (by kernel_rfl)
theorem hd_36 : (SC Tryd.prog J0 JF0 hds).hd 36 = 0 := _root_.id (by kernel_rfl)
theorem hd_39 : (SC Tryd.prog J0 JF0 hds).hd 39 = 0 := _root_.id (by kernel_rfl)
theorem hd_40 : (SC Tryd.prog J0 JF0 hds).hd 40 = 0 := _root_.id (by kernel_rfl)
theorem hd_44 : (SC Tryd.prog J0 JF0 hds).hd 44 = 0 := _root_.id (by kernel_rfl)
theorem hd_45 : (SC Tryd.prog J0 JF0 hds).hd 45 = 0 := _root_.id (by kernel_rfl)
theorem hd_47 : (SC Tryd.prog J0 JF0 hds).hd 47 = 0 := _root_.id (by kernel_rfl)
theorem hd_48 : (SC Tryd.prog J0 JF0 hds).hd 48 = 0 := _root_.id (by kernel_rfl)
theorem hd_49 : (SC Tryd.prog J0 JF0 hds).hd 49 = 0 := _root_.id (by kernel_rfl)
theorem hd_50 : (SC Tryd.prog J0 JF0 hds).hd 50 = 0 := _root_.id (by kernel_rfl)
theorem hd_52 : (SC Tryd.prog J0 JF0 hds).hd 52 = 0 := _root_.id (by kernel_rfl)
theorem hd_53 : (SC Tryd.prog J0 JF0 hds).hd 53 = 0 := _root_.id (by kernel_rfl)
theorem hd_54 : (SC Tryd.prog J0 JF0 hds).hd 54 = 0 := _root_.id (by kernel_rfl)
theorem hd_59 : (SC Tryd.prog J0 JF0 hds).hd 59 = 0 := _root_.id (by kernel_rfl)
theorem hd_61 : (SC Tryd.prog J0 JF0 hds).hd 61 = 0 := _root_.id (by kernel_rfl)
theorem hd_62 : (SC Tryd.prog J0 JF0 hds).hd 62 = 0 := _root_.id (by kernel_rfl)
theorem hd_64 : (SC Tryd.prog J0 JF0 hds).hd 64 = 0 := _root_.id (by kernel_rfl)
theorem hd_65 : (SC Tryd.prog J0 JF0 hds).hd 65 = 0 := _root_.id (by kernel_rfl)
theorem hd_68 : (SC Tryd.prog J0 JF0 hds).hd 68 = 0 := _root_.id (by kernel_rfl)
theorem hd_69 : (SC Tryd.prog J0 JF0 hds).hd 69 = 0 := _root_.id (by kernel_rfl)
theorem hd_71 : (SC Tryd.prog J0 JF0 hds).hd 71 = 0 := _root_.id (by kernel_rfl)
theorem hd_72 : (SC Tryd.prog J0 JF0 hds).hd 72 = 0 := _root_.id (by kernel_rfl)
theorem hd_73 : (SC Tryd.prog J0 JF0 hds).hd 73 = 0 := _root_.id (by kernel_rfl)
theorem hd_75 : (SC Tryd.prog J0 JF0 hds).hd 75 = 0 := _root_.id (by kernel_rfl)
theorem hd_76 : (SC Tryd.prog J0 JF0 hds).hd 76 = 0 := _root_.id (by kernel_rfl)
theorem hd_77 : (SC Tryd.prog J0 JF0 hds).hd 77 = 0 := _root_.id (by kernel_rfl)
theorem hd_78 : (SC Tryd.prog J0 JF0 hds).hd 78 = 0 := _root_.id (by kernel_rfl)
theorem hd_79 : (SC Tryd.prog J0 JF0 hds).hd 79 = 0 := _root_.id (by kernel_rfl)
theorem hd_82 : (SC Tryd.prog J0 JF0 hds).hd 82 = 0 := _root_.id (by kernel_rfl)
theorem hd_83 : (SC Tryd.prog J0 JF0 hds).hd 83 = 0 := _root_.id (by kernel_rfl)
theorem hd_89 : (SC Tryd.prog J0 JF0 hds).hd 89 = 0 := _root_.id (by kernel_rfl)
theorem hd_90 : (SC Tryd.prog J0 JF0 hds).hd 90 = 0 := _root_.id (by kernel_rfl)
theorem hd_91 : (SC Tryd.prog J0 JF0 hds).hd 91 = 0 := _root_.id (by kernel_rfl)
theorem hd_92 : (SC Tryd.prog J0 JF0 hds).hd 92 = 0 := _root_.id (by kernel_rfl)
theorem hd_93 : (SC Tryd.prog J0 JF0 hds).hd 93 = 0 := _root_.id (by kernel_rfl)
theorem hd_94 : (SC Tryd.prog J0 JF0 hds).hd 94 = 0 := _root_.id (by kernel_rfl)
theorem hd_95 : (SC Tryd.prog J0 JF0 hds).hd 95 = 0 := _root_.id (by kernel_rfl)
theorem hd_96 : (SC Tryd.prog J0 JF0 hds).hd 96 = 0 := _root_.id (by kernel_rfl)
theorem hd_100 : (SC Tryd.prog J0 JF0 hds).hd 100 = 0 := _root_.id (by kernel_rfl)
theorem hd_102 : (SC Tryd.prog J0 JF0 hds).hd 102 = 0 := _root_.id (by kernel_rfl)
theorem hd_110 : (SC Tryd.prog J0 JF0 hds).hd 110 = 0 := _root_.id (by kernel_rfl)
theorem tt2 : tt 2 = some (.atom (.c (.int .i64 0))) := _root_.id rfl
theorem tt3 : tt 3 = some (.atom (.c (.int .i64 0))) := _root_.id rfl
theorem tt4 : tt 4 = some (.atom (.c (.bool false))) := _root_.id rfl
theorem tt5 : tt 5 = some (.atom (.c (.int .u8 0))) := _root_.id rfl
theorem tt9 : tt 9 = some (.atom (.c (.str ⟨#[]⟩))) := _root_.id rfl
theorem tt12 : tt 12 = some (.atom (.c (.int .u64 0))) := _root_.id rfl
theorem tt14 : tt 14 = some (.strct [⟨0, 1, false⟩, ⟨1, 1, false⟩] 2 [.c (.str ⟨#[]⟩), .c (.int .u64 0)]) := _root_.id rfl
theorem tt20 : tt 20 = some (.ifc) := _root_.id rfl
theorem tt21 : tt 21 = some (.atom (.c (.int .i32 0))) := _root_.id rfl
theorem tt23 : tt 23 = some (.strct [⟨0, 1, false⟩, ⟨1, 1, false⟩, ⟨2, 1, false⟩] 3 [.c (.str ⟨#[]⟩), .c (.int .i64 0), .c (.str ⟨#[]⟩)]) := _root_.id rfl
theorem tt26 : tt 26 = some (.strct [⟨0, 1, false⟩, ⟨1, 1, false⟩, ⟨2, 1, false⟩] 3 [.c (.str ⟨#[]⟩), .c (.int .i64 0), .c (.str ⟨#[]⟩)]) := _root_.id rfl
theorem tt29 : tt 29 = some (.slice 9 1 16 [.c (.str ⟨#[]⟩)]) := _root_.id rfl
theorem tt31 : tt 31 = some (.strct [⟨0, 1, false⟩, ⟨1, 1, false⟩] 2 [.c (.str ⟨#[]⟩), .nil 9 1]) := _root_.id rfl
theorem tt32 : tt 32 = some (.slice 3 1 8 [.c (.int .i64 0)]) := _root_.id rfl
theorem tt34 : tt 34 = some (.strct [⟨0, 2, true⟩, ⟨2, 1, false⟩, ⟨3, 1, false⟩] 4 [.c (.str ⟨#[]⟩), .nil 9 1, .c (.str ⟨#[]⟩), .nil 3 1]) := _root_.id rfl
theorem tt37 : tt 37 = some (.strct [⟨0, 1, false⟩, ⟨1, 1, false⟩] 2 [.c (.str ⟨#[]⟩), .nil 9 1]) := _root_.id rfl
theorem tt39 : tt 39 = some (.strct [⟨0, 2, true⟩, ⟨2, 1, false⟩, ⟨3, 1, false⟩] 4 [.c (.str ⟨#[]⟩), .nil 9 1, .c (.str ⟨#[]⟩), .nil 3 1]) := _root_.id rfl
theorem tt43 : tt 43 = some (.slice 104 3 56 [.c (.int .i64 0), .nil 3 1, .nil 3 1]) := _root_.id rfl
theorem tt45 : tt 45 = some (.strct [⟨0, 1, false⟩, ⟨1, 1, false⟩] 2 [.c (.int .i64 0), .nil 104 3]) := _root_.id rfl
theorem tt47 : tt 47 = some (.strct [⟨0, 2, true⟩, ⟨2, 1, false⟩, ⟨3, 1, false⟩] 4 [.c (.int .i64 0), .nil 104 3, .nil 3 1, .nil 3 1]) := _root_.id rfl
theorem tt50 : tt 50 = some (.slice 99 3 56 [.c (.int .i64 0), .nil 3 1, .nil 3 1]) := _root_.id rfl
theorem tt52 : tt 52 = some (.strct [⟨0, 1, false⟩, ⟨1, 1, false⟩] 2 [.c (.int .i64 0), .nil 99 3]) := _root_.id rfl
theorem tt54 : tt 54 = some (.strct [⟨0, 2, true⟩, ⟨2, 1, false⟩, ⟨3, 1, false⟩] 4 [.c (.int .i64 0), .nil 99 3, .nil 3 1, .nil 3 1]) := _root_.id rfl
theorem tt58 : tt 58 = some (.slice 34 4 80 [.c (.str ⟨#[]⟩), .nil 9 1, .c (.str ⟨#[]⟩), .nil 3 1]) := _root_.id rfl
theorem tt60 : tt 60 = some (.slice 37 2 40 [.c (.str ⟨#[]⟩), .nil 9 1]) := _root_.id rfl
theorem tt62 : tt 62 = some (.slice 39 4 80 [.c (.str ⟨#[]⟩), .nil 9 1, .c (.str ⟨#[]⟩), .nil 3 1]) := _root_.id rfl
theorem tt89 : tt 89 = some (.slice 5 1 1 [.c (.int .u8 0)]) := _root_.id rfl
theorem tt99 : tt 99 = some (.strct [⟨0, 1, false⟩, ⟨1, 1, false⟩, ⟨2, 1, false⟩] 3 [.c (.int .i64 0), .nil 3 1, .nil 3 1]) := _root_.id rfl
theorem tt104 : tt 104 = some (.strct [⟨0, 1, false⟩, ⟨1, 1, false⟩, ⟨2, 1, false⟩] 3 [.c (.int .i64 0), .nil 3 1, .nil 3 1]) := _root_.id rfl
theorem tt110 : tt 110 = some (.ifc) := _root_.id rfl
theorem tt111 : tt 111 = some (.ifc) := _root_.id rfl
theorem tt123 : tt 123 = some (.atom (.c (.int .u64 0))) := _root_.id rfl
theorem tt134 : tt 134 = some (.atom (.c (.int .u32 0))) := _root_.id rfl
theorem tt137 : tt 137 = some (.atom (.c (.int .u64 0))) := _root_.id rfl
theorem tt158 : tt 158 = some (.strct [⟨0, 1, false⟩] 1 [.c (.str ⟨#[]⟩)]) := _root_.id rfl
theorem fnk {f : FuncId} {fn : Func} {c : Code} {args : List (Bool × List CT)} {res : List RT} (hf : Tryd.prog.funcs[f]? = some fn) (hname : (fn.name == "runtime.NumGoroutine") = false) (hb : fn.body = some c) (hok : codeOk tt hds false fn.ntmps c = true) (hlen : Nat.ble args.length fn.ntmps = true) (h : fnS tt (SC Tryd.prog J0 JF0 hds) fn.results.toList c args res) : Sound Tryd.prog J0 f args res := fn_sound htt hJ0 hmix hf hname hb hok hlen h
theorem fnh {f : FuncId} {fn : Func} {c : Code} {h h' : Hand} {args : List (Bool × List CT)} {res : List RT} (hf : Tryd.prog.funcs[f]? = some fn) (hname : (fn.name == "runtime.NumGoroutine") = false) (hb : fn.body = some c) (hok : codeOk tt hds true fn.ntmps c = true) (hlen : Nat.blt args.length fn.ntmps = true) (hh : fnH tt (SC Tryd.prog J0 JF0 hds) fn.results.toList c h args res h') : SoundH Tryd.prog J0 JF0 f h args res h' := fn_soundH htt hJ0 hmix hf hname hb hok hlen hh
theorem fnb {f : FuncId} {fn : Func} {c : Code} {args : List (Bool × List CT)} {nb : NB} (hf : Tryd.prog.funcs[f]? = some fn) (hname : (fn.name == "runtime.NumGoroutine") = false) (hb : fn.body = some c) (hok : codeOk tt hds false fn.ntmps c = true) (hlen : Nat.ble args.length fn.ntmps = true) (h : fnB tt (SC Tryd.prog J0 JF0 hds) fn.results.toList c args nb) : SoundB Tryd.prog J0 f args nb := fn_soundB htt hJ0 hmix hf hname hb hok hlen h
def eMiss (x : MissD) : List CT := [.str x.rule, .int .i64 x.done, .str x.cond]
theorem eMiss_eq (x : MissD) : eMiss x = [.str x.rule, .int .i64 x.done, .str x.cond] := _root_.id rfl
theorem eMiss_flat (l : List MissD) : flatEs (l.map eMiss) = true := flatEs_map (fun _ => rfl) l
def eFact (x : FactD) : List CT := [.str x.rel, .sl 9 1 (List.map eStr x.args)]
theorem eFact_eq (x : FactD) : eFact x = [.str x.rel, .sl 9 1 (List.map eStr x.args)] := _root_.id rfl
def eStep (x : StepD) : List CT := [.str x.fact.rel, .sl 9 1 (List.map eStr x.fact.args), .str x.rule, .sl 3 1 (List.map eInt x.uses)]
theorem eStep_eq (x : StepD) : eStep x = [.str x.fact.rel, .sl 9 1 (List.map eStr x.fact.args), .str x.rule, .sl 3 1 (List.map eInt x.uses)] := _root_.id rfl
def eReason (x : ReasonD) : List CT := [.int .i64 x.for_, .sl 3 1 (List.map eInt x.inn), .sl 3 1 (List.map eInt x.outs)]
theorem eReason_eq (x : ReasonD) : eReason x = [.int .i64 x.for_, .sl 3 1 (List.map eInt x.inn), .sl 3 1 (List.map eInt x.outs)] := _root_.id rfl
def eBeliefs (x : BeliefsD) : List CT := [.int .i64 x.nodes, .sl 99 3 (List.map eReason x.reasons)]
theorem eBeliefs_eq (x : BeliefsD) : eBeliefs x = [.int .i64 x.nodes, .sl 99 3 (List.map eReason x.reasons)] := _root_.id rfl
def eFrame (x : FrameD) : List CT := [.int .i64 x.beliefs.nodes, .sl 99 3 (List.map eReason x.beliefs.reasons), .sl 3 1 (List.map eInt x.assumed), .sl 3 1 (List.map eInt x.bad)]
theorem eFrame_eq (x : FrameD) : eFrame x = [.int .i64 x.beliefs.nodes, .sl 99 3 (List.map eReason x.beliefs.reasons), .sl 3 1 (List.map eInt x.assumed), .sl 3 1 (List.map eInt x.bad)] := _root_.id rfl
attribute [go_sem] tt2 tt3 tt4 tt5 tt9 tt12 tt14 tt20 tt21 tt23 tt26 tt29 tt31 tt32 tt34 tt37 tt39 tt43 tt45 tt47 tt50 tt52 tt54 tt58 tt60 tt62 tt89 tt99 tt104 tt110 tt111 tt123 tt134 tt137 tt158 hd_8 hd_10 hd_12 hd_14 hd_17
attribute [go_sem] hd_19 hd_22 hd_24 hd_30 hd_31 hd_34 hd_35 hd_36 hd_39 hd_40 hd_44 hd_45 hd_47 hd_48 hd_49 hd_50 hd_52 hd_53 hd_54 hd_59 hd_61 hd_62 hd_64 hd_65 hd_68 hd_69 hd_71 hd_72 hd_73 hd_75 hd_76 hd_77 hd_78 hd_79 hd_82 hd_83 hd_89 hd_90 hd_91 hd_92
attribute [go_sem] hd_93 hd_94 hd_95 hd_96 hd_100 hd_102 hd_110 eMiss_flat eMiss_eq eFact_eq eStep_eq eReason_eq eBeliefs_eq eFrame_eq
end Go.Proofs.YtppjenkjopjeiaaDoor

namespace Go.Proofs
open Go.Shelf
def Tryd.lays156_ren : Go.Shelf.Ren := ⟨fun | 156 => 73 | 165 => 85 | 166 => 86 | 169 => 87 | 240 => 98 | 241 => 99 | 276 => 107 | 277 => 108 | n => n, fun | 31 => 29 | 9 => 9 | 3 => 3 | 4 => 4 | 0 => 0 | 20 => 20 | 72 => 108 | 76 => 112 | 70 => 106 | 37 => 89 | 75 => 111 | 127 => 119 | 164 => 128 | 5 => 5 | 80 => 114 | n => n, fun | n => n⟩
theorem Tryd.lays156 : Go.Proofs.Lays.n156 Tryd.prog Tryd.lays156_ren := {
  mixed := by kernel_rfl
  f156 := Tryd.func73.trans (congrArg some (by kernel_rfl))
  f165 := Tryd.func85.trans (congrArg some (by kernel_rfl))
  f166 := Tryd.func86.trans (congrArg some (by kernel_rfl))
  f169 := Tryd.func87.trans (congrArg some (by kernel_rfl))
  f240 := Tryd.func98.trans (congrArg some (by kernel_rfl))
  f241 := Tryd.func99.trans (congrArg some (by kernel_rfl))
  f276 := Tryd.func107.trans (congrArg some (by kernel_rfl))
  f277 := Tryd.func108.trans (congrArg some (by kernel_rfl))
  t0 := Tryd.underlying0
  a0 := Tryd.isAgg0
  z0 := Tryd.sizeOf0
  v0 := Tryd.zeroValue0
  t3 := Tryd.underlying3
  a3 := Tryd.isAgg3
  z3 := Tryd.sizeOf3
  v3 := Tryd.zeroValue3
  t4 := Tryd.underlying4
  a4 := Tryd.isAgg4
  z4 := Tryd.sizeOf4
  v4 := Tryd.zeroValue4
  t9 := Tryd.underlying9
  a9 := Tryd.isAgg9
  z9 := Tryd.sizeOf9
  v9 := Tryd.zeroValue9
  t20 := Tryd.underlying20
  a20 := Tryd.isAgg20
  z20 := Tryd.sizeOf20
  v20 := Tryd.zeroValue20
  t31 := Tryd.underlying29
  a31 := Tryd.isAgg29
  z31 := Tryd.sizeOf29
  v31 := Tryd.zeroValue29
  t37 := Tryd.underlying89
  a37 := Tryd.isAgg89
  z37 := Tryd.sizeOf89
  v37 := Tryd.zeroValue89
  t70 := Tryd.underlying106
  a70 := Tryd.isAgg106
  z70 := Tryd.sizeOf106
  v70 := Tryd.zeroValue106
  t72 := Tryd.underlying108
  a72 := Tryd.isAgg108
  z72 := Tryd.sizeOf108
  v72 := Tryd.zeroValue108
  t75 := Tryd.underlying111
  a75 := Tryd.isAgg111
  z75 := Tryd.sizeOf111
  v75 := Tryd.zeroValue111
  t76 := Tryd.underlying112
  a76 := Tryd.isAgg112
  z76 := Tryd.sizeOf112
  v76 := Tryd.zeroValue112
  t127 := Tryd.underlying119
  a127 := Tryd.isAgg119
  z127 := Tryd.sizeOf119
  v127 := Tryd.zeroValue119
  t164 := Tryd.underlying128
  a164 := Tryd.isAgg128
  z164 := Tryd.sizeOf128
  v164 := Tryd.zeroValue128 }
theorem Tryd.Builder_Extra_156 : Builder.Extra Tryd.prog Tryd.lays156_ren := {
  sizeBuilder := by kernel_rfl
  liesBuilder := by kernel_rfl
  t5 := Tryd.underlying5
  a5 := Tryd.isAgg5
  z5 := Tryd.sizeOf5
  v5 := Tryd.zeroValue5
  infoByte := by kernel_rfl
  cellsByte := by kernel_rfl
  sizeByte := by kernel_rfl
  neB5 := by decide }
open Go.RowKit in
/-- No element: the empty string; the world is as it was. (Whatever the slice's address and capacity: a nil slice too.) (LAID: no walk: one application.) -/
theorem Tryd.strings_Join_none (a : Option Addr) (c : Nat) (sep : ByteArray) (w : World) :
    Calls Tryd.prog 73 #[.slice a 0 c, .string sep] w fun e w' => e = .returned (.string ⟨#[]⟩) ∧ w' = w := Any.strings_Join_none Tryd.lays156 Tryd.Builder_Extra_156 a c sep w
open Go.RowKit in
/-- strings.Join: "Join concatenates the elements of its first argument to create a single string. The separator string sep is placed between elements in the resulting string.": HOWEVER MANY ELEMENTS. Below the heap's end the world is as it was. (LAID: no walk: one application.) -/
theorem Tryd.strings_Join (bk o c : Nat) (xs : List ByteArray) (sep : ByteArray) (w : World) (hcells : ∀ (j : Nat) x, xs[j]? = some x → w.cell? ⟨bk, o + j, none⟩ = some (.string x)) (hbk : bk < w.heap.size) (hN : xs.length ≤ 140737488355328) (hcap : xs.length ≤ c) (hlen : (Lib.join (xs.map (·.data.toList)) sep.data.toList).length ≤ 140737488355328) :
    Calls Tryd.prog 73 #[.slice (some ⟨bk, o, none⟩) xs.length c, .string sep] w fun e w' => e = .returned (.string ⟨(Lib.join (xs.map (·.data.toList)) sep.data.toList).toArray⟩) ∧ Below w.heap.size w w' := Any.strings_Join Tryd.lays156 Tryd.Builder_Extra_156 bk o c xs sep w hcells hbk hN hcap hlen
def Tryd.lays106_ren : Go.Shelf.Ren := ⟨fun | 106 => 93 | 213 => 101 | 265 => 109 | n => n, fun | 9 => 9 | 3 => 3 | n => n, fun | n => n⟩
theorem Tryd.lays106 : Go.Proofs.Lays.n106 Tryd.prog Tryd.lays106_ren := {
  mixed := by kernel_rfl
  f106 := Tryd.func93.trans (congrArg some (by kernel_rfl))
  f213 := Tryd.func101.trans (congrArg some (by kernel_rfl))
  f265 := Tryd.func109.trans (congrArg some (by kernel_rfl))
  t3 := Tryd.underlying3
  a3 := Tryd.isAgg3
  z3 := Tryd.sizeOf3
  v3 := Tryd.zeroValue3
  t9 := Tryd.underlying9
  a9 := Tryd.isAgg9
  z9 := Tryd.sizeOf9
  v9 := Tryd.zeroValue9 }
open Go.RowKit in
/-- strings.Compare: "Compare returns an integer comparing two strings lexicographically. The result will be 0 if a == b, -1 if a < b, and +1 if a > b.": IT RETURNS 'Lib.compareBytes a b'; the world is as it was. (LAID: no walk: one application.) -/
theorem Tryd.strings_Compare (a b : ByteArray) (w : World) :
    Calls Tryd.prog 93 #[.string a, .string b] w fun e w' => e = .returned (.int .i64 (Lib.compareBytes a.data.toList b.data.toList)) ∧ w' = w := Any.strings_Compare Tryd.lays106 a b w
def Tryd.lays172_ren : Go.Shelf.Ren := ⟨fun | 172 => 110 | 244 => 116 | 245 => 117 | 247 => 120 | 279 => 121 | 280 => 122 | 281 => 123 | 282 => 124 | 287 => 125 | 316 => 126 | 171 => 59 | 205 => 127 | 321 => 128 | 322 => 129 | 243 => 80 | 246 => 97 | 283 => 103 | 284 => 104 | 285 => 105 | 286 => 106 | 129 => 112 | 317 => 111 | 318 => 113 | 319 => 114 | 320 => 115 | 337 => 118 | 338 => 119 | n => n, fun | 9 => 9 | 3 => 3 | 75 => 111 | 76 => 112 | 4 => 4 | 5 => 5 | 167 => 141 | 37 => 89 | 0 => 0 | 85 => 142 | 2 => 2 | 168 => 144 | 53 => 123 | 175 => 149 | 46 => 137 | 210 => 153 | 127 => 119 | 145 => 158 | 143 => 156 | 21 => 21 | 171 => 122 | 173 => 126 | 212 => 133 | 51 => 134 | 20 => 20 | 213 => 135 | 232 => 147 | 233 => 148 | 80 => 114 | n => n, fun | 15 => 4 | 16 => 5 | 17 => 1 | 18 => 2 | 19 => 3 | n => n⟩
theorem Tryd.lays172 : Go.Proofs.Lays.n172 Tryd.prog Tryd.lays172_ren := {
  mixed := by kernel_rfl
  f129 := Tryd.func112.trans (congrArg some (by kernel_rfl))
  f171 := Tryd.func59.trans (congrArg some (by kernel_rfl))
  f172 := Tryd.func110.trans (congrArg some (by kernel_rfl))
  f205 := Tryd.func127.trans (congrArg some (by kernel_rfl))
  f243 := Tryd.func80.trans (congrArg some (by kernel_rfl))
  f244 := Tryd.func116.trans (congrArg some (by kernel_rfl))
  f245 := Tryd.func117.trans (congrArg some (by kernel_rfl))
  f246 := Tryd.func97.trans (congrArg some (by kernel_rfl))
  f247 := Tryd.func120.trans (congrArg some (by kernel_rfl))
  f279 := Tryd.func121.trans (congrArg some (by kernel_rfl))
  f280 := Tryd.func122.trans (congrArg some (by kernel_rfl))
  f281 := Tryd.func123.trans (congrArg some (by kernel_rfl))
  f282 := Tryd.func124.trans (congrArg some (by kernel_rfl))
  f283 := Tryd.func103.trans (congrArg some (by kernel_rfl))
  f284 := Tryd.func104.trans (congrArg some (by kernel_rfl))
  f285 := Tryd.func105.trans (congrArg some (by kernel_rfl))
  f286 := Tryd.func106.trans (congrArg some (by kernel_rfl))
  f287 := Tryd.func125.trans (congrArg some (by kernel_rfl))
  f316 := Tryd.func126.trans (congrArg some (by kernel_rfl))
  f317 := Tryd.func111.trans (congrArg some (by kernel_rfl))
  f318 := Tryd.func113.trans (congrArg some (by kernel_rfl))
  f319 := Tryd.func114.trans (congrArg some (by kernel_rfl))
  f320 := Tryd.func115.trans (congrArg some (by kernel_rfl))
  f321 := Tryd.func128.trans (congrArg some (by kernel_rfl))
  f322 := Tryd.func129.trans (congrArg some (by kernel_rfl))
  f337 := Tryd.func118.trans (congrArg some (by kernel_rfl))
  f338 := Tryd.func119.trans (congrArg some (by kernel_rfl))
  t0 := Tryd.underlying0
  a0 := Tryd.isAgg0
  z0 := Tryd.sizeOf0
  v0 := Tryd.zeroValue0
  t2 := Tryd.underlying2
  a2 := Tryd.isAgg2
  z2 := Tryd.sizeOf2
  v2 := Tryd.zeroValue2
  t3 := Tryd.underlying3
  a3 := Tryd.isAgg3
  z3 := Tryd.sizeOf3
  v3 := Tryd.zeroValue3
  t4 := Tryd.underlying4
  a4 := Tryd.isAgg4
  z4 := Tryd.sizeOf4
  v4 := Tryd.zeroValue4
  t5 := Tryd.underlying5
  a5 := Tryd.isAgg5
  z5 := Tryd.sizeOf5
  v5 := Tryd.zeroValue5
  t9 := Tryd.underlying9
  a9 := Tryd.isAgg9
  z9 := Tryd.sizeOf9
  v9 := Tryd.zeroValue9
  t20 := Tryd.underlying20
  a20 := Tryd.isAgg20
  z20 := Tryd.sizeOf20
  v20 := Tryd.zeroValue20
  t21 := Tryd.underlying21
  a21 := Tryd.isAgg21
  z21 := Tryd.sizeOf21
  v21 := Tryd.zeroValue21
  t37 := Tryd.underlying89
  a37 := Tryd.isAgg89
  z37 := Tryd.sizeOf89
  v37 := Tryd.zeroValue89
  t46 := Tryd.underlying137
  a46 := Tryd.isAgg137
  z46 := Tryd.sizeOf137
  v46 := Tryd.zeroValue137
  t51 := Tryd.underlying134
  a51 := Tryd.isAgg134
  z51 := Tryd.sizeOf134
  v51 := Tryd.zeroValue134
  t53 := Tryd.underlying123
  a53 := Tryd.isAgg123
  z53 := Tryd.sizeOf123
  v53 := Tryd.zeroValue123
  t75 := Tryd.underlying111
  a75 := Tryd.isAgg111
  z75 := Tryd.sizeOf111
  v75 := Tryd.zeroValue111
  t76 := Tryd.underlying112
  a76 := Tryd.isAgg112
  z76 := Tryd.sizeOf112
  v76 := Tryd.zeroValue112
  t85 := Tryd.underlying142
  a85 := Tryd.isAgg142
  z85 := Tryd.sizeOf142
  v85 := Tryd.zeroValue142
  t127 := Tryd.underlying119
  a127 := Tryd.isAgg119
  z127 := Tryd.sizeOf119
  v127 := Tryd.zeroValue119
  t143 := Tryd.underlying156
  a143 := Tryd.isAgg156
  z143 := Tryd.sizeOf156
  v143 := Tryd.zeroValue156
  t145 := Tryd.underlying158
  a145 := Tryd.isAgg158
  z145 := Tryd.sizeOf158
  v145 := Tryd.zeroValue158
  t167 := Tryd.underlying141
  a167 := Tryd.isAgg141
  z167 := Tryd.sizeOf141
  v167 := Tryd.zeroValue141
  t168 := Tryd.underlying144
  a168 := Tryd.isAgg144
  z168 := Tryd.sizeOf144
  v168 := Tryd.zeroValue144
  t171 := Tryd.underlying122
  a171 := Tryd.isAgg122
  z171 := Tryd.sizeOf122
  v171 := Tryd.zeroValue122
  t173 := Tryd.underlying126
  a173 := Tryd.isAgg126
  z173 := Tryd.sizeOf126
  v173 := Tryd.zeroValue126
  t175 := Tryd.underlying149
  a175 := Tryd.isAgg149
  z175 := Tryd.sizeOf149
  v175 := Tryd.zeroValue149
  t210 := Tryd.underlying153
  a210 := Tryd.isAgg153
  z210 := Tryd.sizeOf153
  v210 := Tryd.zeroValue153
  t212 := Tryd.underlying133
  a212 := Tryd.isAgg133
  z212 := Tryd.sizeOf133
  v212 := Tryd.zeroValue133
  t213 := Tryd.underlying135
  a213 := Tryd.isAgg135
  z213 := Tryd.sizeOf135
  t232 := Tryd.underlying147
  a232 := Tryd.isAgg147
  z232 := Tryd.sizeOf147
  v232 := Tryd.zeroValue147
  t233 := Tryd.underlying148
  a233 := Tryd.isAgg148
  z233 := Tryd.sizeOf148
  v233 := Tryd.zeroValue148
  g15 := by kernel_rfl
  g16 := by kernel_rfl
  g17 := by kernel_rfl
  g18 := by kernel_rfl
  g19 := by kernel_rfl }
open Go.RowKit in
/-- strconv.Atoi: "Atoi is equivalent to ParseInt(s, 10, 0), converted to type int.": AT A DECIMAL NUMERAL OF AT MOST 18 BYTES: its value, and a nil error. The world behind the call: the one new row that the library's '[]byte(s)' lays. (LAID: no walk: one application.) -/
theorem Tryd.strconv_Atoi (s : ByteArray) (n : Int) (hl : s.size ≤ 18) (h : Lib.atoi s.data.toList = some n) (w : World) :
    Calls Tryd.prog 110 #[.string s] w fun e w' => e = .returned (.tuple #[.int .i64 n, .nilIface]) ∧ ∃ t, w' = Lib.bytesWorld w 5 t := Any.strconv_Atoi Tryd.lays172 s n hl h w
def Tryd.laysM171_ren : Go.Shelf.Ren := ⟨fun | 171 => 59 | 243 => 80 | 246 => 97 | 283 => 103 | 284 => 104 | 285 => 105 | 286 => 106 | 129 => 112 | 317 => 111 | 318 => 113 | 319 => 114 | 320 => 115 | 337 => 118 | 338 => 119 | n => n, fun | 3 => 3 | 9 => 9 | 2 => 2 | 4 => 4 | 171 => 122 | 0 => 0 | 53 => 123 | 37 => 89 | 5 => 5 | 173 => 126 | 212 => 133 | 51 => 134 | 20 => 20 | 213 => 135 | 46 => 137 | 232 => 147 | 233 => 148 | n => n, fun | 17 => 1 | 18 => 2 | 19 => 3 | n => n⟩
theorem Tryd.laysM171 : Go.Proofs.LaysM.n171 Tryd.prog Tryd.laysM171_ren := {
  mixed := by kernel_rfl
  f129 := Tryd.func112.trans (congrArg some (by kernel_rfl))
  f171 := Tryd.func59.trans (congrArg some (by kernel_rfl))
  f243 := Tryd.func80.trans (congrArg some (by kernel_rfl))
  f246 := Tryd.func97.trans (congrArg some (by kernel_rfl))
  f283 := Tryd.func103.trans (congrArg some (by kernel_rfl))
  f284 := Tryd.func104.trans (congrArg some (by kernel_rfl))
  f285 := Tryd.func105.trans (congrArg some (by kernel_rfl))
  f286 := Tryd.func106.trans (congrArg some (by kernel_rfl))
  f317 := Tryd.func111.trans (congrArg some (by kernel_rfl))
  f318 := Tryd.func113.trans (congrArg some (by kernel_rfl))
  f319 := Tryd.func114.trans (congrArg some (by kernel_rfl))
  f320 := Tryd.func115.trans (congrArg some (by kernel_rfl))
  f337 := Tryd.func118.trans (congrArg some (by kernel_rfl))
  f338 := Tryd.func119.trans (congrArg some (by kernel_rfl))
  t0 := Tryd.underlying0
  a0 := Tryd.isAgg0
  z0 := Tryd.sizeOf0
  v0 := Tryd.zeroValue0
  t2 := Tryd.underlying2
  a2 := Tryd.isAgg2
  z2 := Tryd.sizeOf2
  v2 := Tryd.zeroValue2
  t3 := Tryd.underlying3
  a3 := Tryd.isAgg3
  z3 := Tryd.sizeOf3
  v3 := Tryd.zeroValue3
  t4 := Tryd.underlying4
  a4 := Tryd.isAgg4
  z4 := Tryd.sizeOf4
  v4 := Tryd.zeroValue4
  t5 := Tryd.underlying5
  a5 := Tryd.isAgg5
  z5 := Tryd.sizeOf5
  v5 := Tryd.zeroValue5
  t9 := Tryd.underlying9
  a9 := Tryd.isAgg9
  z9 := Tryd.sizeOf9
  v9 := Tryd.zeroValue9
  t20 := Tryd.underlying20
  a20 := Tryd.isAgg20
  z20 := Tryd.sizeOf20
  v20 := Tryd.zeroValue20
  t37 := Tryd.underlying89
  a37 := Tryd.isAgg89
  z37 := Tryd.sizeOf89
  v37 := Tryd.zeroValue89
  t46 := Tryd.underlying137
  a46 := Tryd.isAgg137
  z46 := Tryd.sizeOf137
  v46 := Tryd.zeroValue137
  t51 := Tryd.underlying134
  a51 := Tryd.isAgg134
  z51 := Tryd.sizeOf134
  v51 := Tryd.zeroValue134
  t53 := Tryd.underlying123
  a53 := Tryd.isAgg123
  z53 := Tryd.sizeOf123
  v53 := Tryd.zeroValue123
  t171 := Tryd.underlying122
  a171 := Tryd.isAgg122
  z171 := Tryd.sizeOf122
  v171 := Tryd.zeroValue122
  t173 := Tryd.underlying126
  a173 := Tryd.isAgg126
  z173 := Tryd.sizeOf126
  v173 := Tryd.zeroValue126
  t212 := Tryd.underlying133
  a212 := Tryd.isAgg133
  z212 := Tryd.sizeOf133
  v212 := Tryd.zeroValue133
  t213 := Tryd.underlying135
  a213 := Tryd.isAgg135
  z213 := Tryd.sizeOf135
  t232 := Tryd.underlying147
  a232 := Tryd.isAgg147
  z232 := Tryd.sizeOf147
  v232 := Tryd.zeroValue147
  t233 := Tryd.underlying148
  a233 := Tryd.isAgg148
  z233 := Tryd.sizeOf148
  v233 := Tryd.zeroValue148
  g17 := by kernel_rfl
  g18 := by kernel_rfl
  g19 := by kernel_rfl
  i0 := by kernel_rfl
  i2 := by kernel_rfl
  i3 := by kernel_rfl
  i4 := by kernel_rfl
  i5 := by kernel_rfl
  i9 := by kernel_rfl
  i20 := by kernel_rfl
  i37 := by kernel_rfl
  i46 := by kernel_rfl
  i51 := by kernel_rfl
  i53 := by kernel_rfl
  i171 := by kernel_rfl
  i173 := by kernel_rfl
  i212 := by kernel_rfl
  i232 := by kernel_rfl
  i233 := by kernel_rfl
  m17 := by kernel_rfl
  m18 := by kernel_rfl
  m19 := by kernel_rfl }
open Go.RowKit Go.Sort Go.Lib in
/-- strconv.Itoa: "Itoa is equivalent to FormatInt(int64(i), 10).": i's DECIMAL NUMERAL ('Lib.itoa': a '-' where i is negative, then the digits), FOR EVERY int. The world behind the call: the world before it, new blocks behind the heap (the library's 'var a [24]byte'), draws. (LAID: no walk: one application.) -/
theorem Tryd.strconv_Itoa (n : Int) (h0 : -9223372036854775808 ≤ n) (h1 : n ≤ 9223372036854775807) (w : World) (htab : Lib.TabIs Tryd.prog w "internal/strconv.uint64pow10" .u64 Lib.pow10Tab) :
    Calls Tryd.prog 59 #[.int .i64 n] w fun e w' => e = .returned (.string ⟨(Lib.itoa n).toArray⟩) ∧ ∃ k os, w' = grow (w.drewN k) os := Any.strconv_Itoa Tryd.laysM171 n h0 h1 w htab
def Tryd.laysC172_ren : Go.Shelf.Ren := ⟨fun | 172 => 110 | 244 => 116 | 245 => 117 | 247 => 120 | 279 => 121 | 280 => 122 | 281 => 123 | 282 => 124 | 287 => 125 | 316 => 126 | 171 => 59 | 205 => 127 | 321 => 128 | 322 => 129 | 243 => 80 | 246 => 97 | 283 => 103 | 284 => 104 | 285 => 105 | 286 => 106 | 129 => 112 | 317 => 111 | 318 => 113 | 319 => 114 | 320 => 115 | 337 => 118 | 338 => 119 | n => n, fun | 9 => 9 | 3 => 3 | 75 => 111 | 76 => 112 | 4 => 4 | 5 => 5 | 167 => 141 | 37 => 89 | 0 => 0 | 85 => 142 | 2 => 2 | 168 => 144 | 53 => 123 | 175 => 149 | 46 => 137 | 210 => 153 | 127 => 119 | 145 => 158 | 143 => 156 | 21 => 21 | 171 => 122 | 173 => 126 | 212 => 133 | 51 => 134 | 20 => 20 | 213 => 135 | 232 => 147 | 233 => 148 | 80 => 114 | n => n, fun | 15 => 4 | 16 => 5 | 17 => 1 | 18 => 2 | 19 => 3 | n => n⟩
theorem Tryd.laysC172 : Go.Proofs.LaysC.n172 Tryd.prog Tryd.laysC172_ren := {
  mixed := by kernel_rfl
  f129 := Tryd.func112.trans (congrArg some (by kernel_rfl))
  f171 := Tryd.func59.trans (congrArg some (by kernel_rfl))
  f172 := Tryd.func110.trans (congrArg some (by kernel_rfl))
  f205 := Tryd.func127.trans (congrArg some (by kernel_rfl))
  f243 := Tryd.func80.trans (congrArg some (by kernel_rfl))
  f244 := Tryd.func116.trans (congrArg some (by kernel_rfl))
  f245 := Tryd.func117.trans (congrArg some (by kernel_rfl))
  f246 := Tryd.func97.trans (congrArg some (by kernel_rfl))
  f247 := Tryd.func120.trans (congrArg some (by kernel_rfl))
  f279 := Tryd.func121.trans (congrArg some (by kernel_rfl))
  f280 := Tryd.func122.trans (congrArg some (by kernel_rfl))
  f281 := Tryd.func123.trans (congrArg some (by kernel_rfl))
  f282 := Tryd.func124.trans (congrArg some (by kernel_rfl))
  f283 := Tryd.func103.trans (congrArg some (by kernel_rfl))
  f284 := Tryd.func104.trans (congrArg some (by kernel_rfl))
  f285 := Tryd.func105.trans (congrArg some (by kernel_rfl))
  f286 := Tryd.func106.trans (congrArg some (by kernel_rfl))
  f287 := Tryd.func125.trans (congrArg some (by kernel_rfl))
  f316 := Tryd.func126.trans (congrArg some (by kernel_rfl))
  f317 := Tryd.func111.trans (congrArg some (by kernel_rfl))
  f318 := Tryd.func113.trans (congrArg some (by kernel_rfl))
  f319 := Tryd.func114.trans (congrArg some (by kernel_rfl))
  f320 := Tryd.func115.trans (congrArg some (by kernel_rfl))
  f321 := Tryd.func128.trans (congrArg some (by kernel_rfl))
  f322 := Tryd.func129.trans (congrArg some (by kernel_rfl))
  f337 := Tryd.func118.trans (congrArg some (by kernel_rfl))
  f338 := Tryd.func119.trans (congrArg some (by kernel_rfl))
  t0 := Tryd.underlying0
  a0 := Tryd.isAgg0
  z0 := Tryd.sizeOf0
  v0 := Tryd.zeroValue0
  t2 := Tryd.underlying2
  a2 := Tryd.isAgg2
  z2 := Tryd.sizeOf2
  v2 := Tryd.zeroValue2
  t3 := Tryd.underlying3
  a3 := Tryd.isAgg3
  z3 := Tryd.sizeOf3
  v3 := Tryd.zeroValue3
  t4 := Tryd.underlying4
  a4 := Tryd.isAgg4
  z4 := Tryd.sizeOf4
  v4 := Tryd.zeroValue4
  t5 := Tryd.underlying5
  a5 := Tryd.isAgg5
  z5 := Tryd.sizeOf5
  v5 := Tryd.zeroValue5
  t9 := Tryd.underlying9
  a9 := Tryd.isAgg9
  z9 := Tryd.sizeOf9
  v9 := Tryd.zeroValue9
  t20 := Tryd.underlying20
  a20 := Tryd.isAgg20
  z20 := Tryd.sizeOf20
  v20 := Tryd.zeroValue20
  t21 := Tryd.underlying21
  a21 := Tryd.isAgg21
  z21 := Tryd.sizeOf21
  v21 := Tryd.zeroValue21
  t37 := Tryd.underlying89
  a37 := Tryd.isAgg89
  z37 := Tryd.sizeOf89
  v37 := Tryd.zeroValue89
  t46 := Tryd.underlying137
  a46 := Tryd.isAgg137
  z46 := Tryd.sizeOf137
  v46 := Tryd.zeroValue137
  t51 := Tryd.underlying134
  a51 := Tryd.isAgg134
  z51 := Tryd.sizeOf134
  v51 := Tryd.zeroValue134
  t53 := Tryd.underlying123
  a53 := Tryd.isAgg123
  z53 := Tryd.sizeOf123
  v53 := Tryd.zeroValue123
  t75 := Tryd.underlying111
  a75 := Tryd.isAgg111
  z75 := Tryd.sizeOf111
  v75 := Tryd.zeroValue111
  t76 := Tryd.underlying112
  a76 := Tryd.isAgg112
  z76 := Tryd.sizeOf112
  v76 := Tryd.zeroValue112
  t85 := Tryd.underlying142
  a85 := Tryd.isAgg142
  z85 := Tryd.sizeOf142
  v85 := Tryd.zeroValue142
  t127 := Tryd.underlying119
  a127 := Tryd.isAgg119
  z127 := Tryd.sizeOf119
  v127 := Tryd.zeroValue119
  t143 := Tryd.underlying156
  a143 := Tryd.isAgg156
  z143 := Tryd.sizeOf156
  v143 := Tryd.zeroValue156
  t145 := Tryd.underlying158
  a145 := Tryd.isAgg158
  z145 := Tryd.sizeOf158
  v145 := Tryd.zeroValue158
  t167 := Tryd.underlying141
  a167 := Tryd.isAgg141
  z167 := Tryd.sizeOf141
  v167 := Tryd.zeroValue141
  t168 := Tryd.underlying144
  a168 := Tryd.isAgg144
  z168 := Tryd.sizeOf144
  v168 := Tryd.zeroValue144
  t171 := Tryd.underlying122
  a171 := Tryd.isAgg122
  z171 := Tryd.sizeOf122
  v171 := Tryd.zeroValue122
  t173 := Tryd.underlying126
  a173 := Tryd.isAgg126
  z173 := Tryd.sizeOf126
  v173 := Tryd.zeroValue126
  t175 := Tryd.underlying149
  a175 := Tryd.isAgg149
  z175 := Tryd.sizeOf149
  v175 := Tryd.zeroValue149
  t210 := Tryd.underlying153
  a210 := Tryd.isAgg153
  z210 := Tryd.sizeOf153
  v210 := Tryd.zeroValue153
  t212 := Tryd.underlying133
  a212 := Tryd.isAgg133
  z212 := Tryd.sizeOf133
  v212 := Tryd.zeroValue133
  t213 := Tryd.underlying135
  a213 := Tryd.isAgg135
  z213 := Tryd.sizeOf135
  t232 := Tryd.underlying147
  a232 := Tryd.isAgg147
  z232 := Tryd.sizeOf147
  v232 := Tryd.zeroValue147
  t233 := Tryd.underlying148
  a233 := Tryd.isAgg148
  z233 := Tryd.sizeOf148
  v233 := Tryd.zeroValue148
  g15 := by kernel_rfl
  g16 := by kernel_rfl
  g17 := by kernel_rfl
  g18 := by kernel_rfl
  g19 := by kernel_rfl
  t80 := Tryd.underlying114
  a80 := Tryd.isAgg114
  z80 := Tryd.sizeOf114
  v80 := Tryd.zeroValue114
  i0 := by kernel_rfl
  i2 := by kernel_rfl
  i3 := by kernel_rfl
  i4 := by kernel_rfl
  i5 := by kernel_rfl
  i9 := by kernel_rfl
  i20 := by kernel_rfl
  i21 := by kernel_rfl
  i37 := by kernel_rfl
  i46 := by kernel_rfl
  i51 := by kernel_rfl
  i53 := by kernel_rfl
  i75 := by kernel_rfl
  i76 := by kernel_rfl
  i80 := by kernel_rfl
  i85 := by kernel_rfl
  i127 := by kernel_rfl
  i143 := by kernel_rfl
  i145 := by kernel_rfl
  i167 := by kernel_rfl
  i168 := by kernel_rfl
  i171 := by kernel_rfl
  i173 := by kernel_rfl
  i175 := by kernel_rfl
  i210 := by kernel_rfl
  i212 := by kernel_rfl
  i232 := by kernel_rfl
  i233 := by kernel_rfl
  m15 := by kernel_rfl
  m16 := by kernel_rfl
  m17 := by kernel_rfl
  m18 := by kernel_rfl
  m19 := by kernel_rfl
  c0 := by kernel_rfl
  c2 := by kernel_rfl
  c3 := by kernel_rfl
  c4 := by kernel_rfl
  c5 := by kernel_rfl
  c9 := by kernel_rfl
  c20 := by kernel_rfl
  c21 := by kernel_rfl
  c37 := by kernel_rfl
  c46 := by kernel_rfl
  c51 := by kernel_rfl
  c53 := by kernel_rfl
  c75 := by kernel_rfl
  c76 := by kernel_rfl
  c80 := by kernel_rfl
  c85 := by kernel_rfl
  c127 := by kernel_rfl
  c143 := by kernel_rfl
  c145 := by kernel_rfl
  c167 := by kernel_rfl
  c168 := by kernel_rfl
  c171 := by kernel_rfl
  c173 := by kernel_rfl
  c175 := by kernel_rfl
  c210 := by kernel_rfl
  c212 := by kernel_rfl
  c213 := by kernel_rfl
  c232 := by kernel_rfl
  c233 := by kernel_rfl }
open Go.RowKit in
theorem Tryd.strconv_Atoi_err_var (s : ByteArray) (hl : s.size ≤ 18) (h : Lib.atoi s.data.toList = none) (tp : TypeId) (p : Value) (w : World) (hvar : w.var? Tryd.prog "strconv.ErrSyntax" = some #[.iface tp p]) :
    Calls Tryd.prog 110 #[.string s] w fun e w' => ∃ N, e = .returned (.tuple #[.int .i64 0, .iface 144 (.pointer (some ⟨N, 0, none⟩))]) ∧ w.heap.size ≤ N ∧ w'.heap[N]? = some (.cells #[.string ⟨#[65, 116, 111, 105]⟩, .string s, .iface tp p] 153 (0, 0)) ∧ Below w.heap.size w w' := Any.strconv_Atoi_err_var Tryd.laysC172 s hl h tp p w hvar
end Go.Proofs

namespace Go.Proofs.YtppjenkjopjeiaaDoor
open Go.RowKit Go.Sort Go.Lib
theorem itoa_S {J : World → Prop} (hJ : ∀ w, J w → Lib.TabIs Tryd.prog w "internal/strconv.uint64pow10" .u64 Lib.pow10Tab) {n : Int} {r : ByteArray} (h : x_Itoa n = some r) : Sound Tryd.prog J 59 [(false, [.int .i64 n])] [(false, [(false, .str r)])] := by
  obtain ⟨h1, h2⟩ := chk_K h
  obtain rfl := Option.some.inj h2
  refine ⟨⟨Tryd.f59, Tryd.func59, by kernel_rfl, by kernel_rfl⟩, fun w z vs hj hz hargs => ?_⟩
  obtain ⟨v, L, rfl, rfl, _⟩ := args_one hargs
  refine (Tryd.strconv_Itoa n h1.1 h1.2 w (hJ w hj)).mono ?_
  rintro e w' ⟨rfl, k, os, rfl⟩
  refine ⟨_, z, rfl, resv_one ⟨⟨rfl, rfl, ?_⟩, rfl⟩, fun b h => h, below_grow _ _ (Nat.le_refl _) _ _⟩
  have := Lib.itoa_length_le n h1.1 h1.2
  show (Lib.itoa n).toArray.size ≤ _
  rw [List.size_toArray]
  omega
end Go.Proofs.YtppjenkjopjeiaaDoor

namespace Go.Proofs.YtppjenkjopjeiaaDoor
open Go.RowKit
theorem REs_strs {w : World} : ∀ {l : List ByteArray} {xs : List Value} {L : List Nat}, REs w 1 (l.map eStr) xs L → xs = l.map Value.string
  | [], _, _, h => h.1
  | x :: l, _, _, h => by
    obtain ⟨c1, c2, L1, L2, rfl, _, h1, h2⟩ := h
    obtain ⟨⟨v, cs, M1, M2, rfl, _, hv, hc, _⟩, _⟩ := h1
    rw [REs_strs h2, hc, hv.1]
    rfl
theorem join_S {J : World → Prop} {l : List ByteArray} {sep r : ByteArray} (h : x_Join l sep = some r) : Sound Tryd.prog J 73 [(false, [.sl 9 1 (l.map eStr)]), (false, [.str sep])] [(false, [(false, .str r)])] := by
  obtain ⟨h1, h2⟩ := chk_K h
  obtain rfl := Option.some.inj h2
  refine ⟨⟨Tryd.f73, Tryd.func73, by kernel_rfl, by kernel_rfl⟩, fun w z vs hj hz hargs => ?_⟩
  obtain ⟨v, u, L, M, rfl, hv, ⟨rfl, _⟩⟩ := args_two hargs
  have hlt := hv.lt
  obtain ⟨A, cap, cs, L0, L1, rfl, hc1, hc2, rfl, _, hs, he⟩ := hv
  rw [List.length_map] at hs hc1
  have hcs := REs_strs he
  have hsz : (ofL (Lib.join (l.map toL) (toL sep))).size ≤ 9223372036854775807 := by
    show (Lib.join (l.map toL) (toL sep)).toArray.size ≤ _
    rw [List.size_toArray]
    omega
  rcases hs.2 with ⟨h0, _⟩ | ⟨hn, b, off, rfl, rfl, hcell⟩
  · have : l = [] := List.eq_nil_of_length_eq_zero h0
    subst this
    refine (Tryd.strings_Join_none A cap sep w).mono ?_
    rintro e w' ⟨rfl, rfl⟩
    exact ⟨_, z, rfl, resv_one ⟨⟨rfl, rfl, hsz⟩, rfl⟩, fun b h => h, Below.refl _ _⟩
  · rw [List.length_map]
    refine (Tryd.strings_Join b off cap l sep w (fun j x hx => hcell j _ (by rw [hcs, List.getElem?_map, hx]; rfl)) ?_ h1.1 hc1 h1.2).mono ?_
    · exact hlt b (by simp)
    · rintro e w' ⟨rfl, hb⟩
      exact ⟨_, z, rfl, resv_one ⟨⟨rfl, rfl, hsz⟩, rfl⟩, fun b h => h, hb⟩
end Go.Proofs.YtppjenkjopjeiaaDoor

namespace Go.Proofs.YtppjenkjopjeiaaDoor
open Go.RowKit
theorem compare_S {J : World → Prop} {a b : ByteArray} {r : Int} (h : x_Compare a b = some r) : Sound Tryd.prog J 93 [(false, [.str a]), (false, [.str b])] [(false, [(false, .int .i64 r)])] := by
  obtain rfl := Option.some.inj h
  refine ⟨⟨Tryd.f93, Tryd.func93, by kernel_rfl, by kernel_rfl⟩, fun w z vs hj hz hargs => ?_⟩
  obtain ⟨v, u, L, M, rfl, ⟨rfl, _⟩, rfl, _⟩ := args_two hargs
  refine (Tryd.strings_Compare a b w).mono ?_
  rintro e w' ⟨rfl, rfl⟩
  exact ⟨_, z, rfl, resv_one ⟨⟨rfl, rfl⟩, rfl⟩, fun b h => h, Below.refl _ _⟩
end Go.Proofs.YtppjenkjopjeiaaDoor

namespace Go.Proofs.YtppjenkjopjeiaaDoor
open Go.RowKit
theorem atoi_S {J : World → Prop} (hJ : ∀ w, J w → ∃ tp p, w.var? Tryd.prog "strconv.ErrSyntax" = some #[.iface tp p]) {s : ByteArray} {r : Int × Bool} (h : x_Atoi s = some r) : Sound Tryd.prog J 110 [(false, [.str s])] [(false, [(false, .int .i64 r.1)]), (false, [(false, .ifc r.2)])] := by
  obtain ⟨h1, h2⟩ := chk_K h
  refine ⟨⟨Tryd.f110, Tryd.func110, by kernel_rfl, by kernel_rfl⟩, fun w z vs hj hz hargs => ?_⟩
  obtain ⟨v, L, rfl, rfl, _⟩ := args_one hargs
  cases ha : Lib.atoi (toL s) with
  | some n =>
    rw [ha] at h2
    obtain rfl := Option.some.inj h2
    refine (Tryd.strconv_Atoi s n h1 ha w).mono ?_
    rintro e w' ⟨rfl, t, rfl⟩
    exact ⟨_, z, rfl, resv_two ⟨⟨rfl, rfl⟩, rfl⟩ ⟨⟨rfl, rfl, rfl⟩, rfl⟩, fun b h => h, Lib.bytesWorld_below _ _ _⟩
  | none =>
    rw [ha] at h2
    obtain rfl := Option.some.inj h2
    obtain ⟨tp, p, hv⟩ := hJ w hj
    refine (Tryd.strconv_Atoi_err_var s h1 ha tp p w hv).mono ?_
    rintro e w' ⟨N, rfl, _, _, hb⟩
    exact ⟨_, z, rfl, resv_two ⟨⟨rfl, rfl⟩, rfl⟩ ⟨⟨rfl, rfl, _, _, rfl⟩, rfl⟩, fun b h => h, hb⟩
end Go.Proofs.YtppjenkjopjeiaaDoor

namespace Go.Proofs.YtppjenkjopjeiaaDoor
theorem x_Itoa_ok {n : Int} {r : ByteArray} (h : x_Itoa n = some r) : Sound Tryd.prog J0 59 [(false, [.int .i64 n])] [(false, [(false, .str r)])] := itoa_S j0_pow h
theorem x_Compare_ok {a b : ByteArray} {r : Int} (h : x_Compare a b = some r) : Sound Tryd.prog J0 93 [(false, [.str a]), (false, [.str b])] [(false, [(false, .int .i64 r)])] := compare_S h
theorem x_Atoi_ok {s : ByteArray} {r : Int × Bool} (h : x_Atoi s = some r) : Sound Tryd.prog J0 110 [(false, [.str s])] [(false, [(false, .int .i64 r.1)]), (false, [(false, .ifc r.2)])] := atoi_S j0_err h
end Go.Proofs.YtppjenkjopjeiaaDoor

namespace Go.Proofs.YtppjenkjopjeiaaDoor
open Go.Proofs.Tryd
set_option linter.unusedSimpArgs false
set_option linter.unusedVariables false
set_option maxRecDepth 1000000
set_option maxHeartbeats 4000000
theorem s_FormatInt_0_ok {n_0 : Int} {r : ByteArray} (h : s_FormatInt_0 n_0 = some r) : Sound Tryd.prog J0 30 [(false, [.int .i64 n_0])] [(false, [(false, .str r)])] := by
  refine fnk Tryd.func30 (by kernel_rfl) rfl (by kernel_rfl) (by kernel_rfl) ?_
  unfold s_FormatInt_0 at h
  have ks0 : strOk ⟨#[45, 57, 50, 50, 51, 51, 55, 50, 48, 51, 54, 56, 53, 52, 55, 55, 53, 56, 48, 56]⟩ = true := by decide
  have ks1 : strOk ⟨#[]⟩ = true := by decide
  have kz0 : ¬ ((10 : Int) = 0) := by decide
  simp only [fnS, f30, argSt, go_sem, Int.reduceLT, Int.reduceLE, Int.reduceBEq, Int.reduceBNe, Nat.reduceBNe, Nat.reduceAdd, Nat.reduceMul, Nat.reduceEqDiff, Nat.reduceLeDiff, Nat.reduceLT, Nat.reduceBEq, reduceCtorEq, reduceIte, ks0, ks1, kz0]
  refine ite_K h (fun c1 h => ?_) (fun c1 h => ?_)
  · obtain rfl := Option.some.inj h
    try simp only [go_sem, Int.reduceLT, Int.reduceLE, Int.reduceBEq, Int.reduceBNe, Nat.reduceBNe, Nat.reduceAdd, Nat.reduceMul, Nat.reduceEqDiff, Nat.reduceLeDiff, Nat.reduceLT, Nat.reduceBEq, reduceCtorEq, reduceIte, ks0, ks1, kz0, c1]
  · try simp only [go_sem, Int.reduceLT, Int.reduceLE, Int.reduceBEq, Int.reduceBNe, Nat.reduceBNe, Nat.reduceAdd, Nat.reduceMul, Nat.reduceEqDiff, Nat.reduceLeDiff, Nat.reduceLT, Nat.reduceBEq, reduceCtorEq, reduceIte, ks0, ks1, kz0, c1]
    refine ite_K h (fun c2 h => ?_) (fun c2 h => ?_)
    · cases h
    · try simp only [go_sem, Int.reduceLT, Int.reduceLE, Int.reduceBEq, Int.reduceBNe, Nat.reduceBNe, Nat.reduceAdd, Nat.reduceMul, Nat.reduceEqDiff, Nat.reduceLeDiff, Nat.reduceLT, Nat.reduceBEq, reduceCtorEq, reduceIte, ks0, ks1, kz0, c1, c2]
      refine swp_iter h (fun s st => match s with | (n_1, s_2) => IV [(0, .p false [.c (.int .i64 n_1)]), (3, .p false [.c (.str s_2)])] [] st) [] [] (by decide) ?_ ?_
      · simp only [go_sem, Int.reduceLT, Int.reduceLE, Int.reduceBEq, Int.reduceBNe, Nat.reduceBNe, Nat.reduceAdd, Nat.reduceMul, Nat.reduceEqDiff, Nat.reduceLeDiff, Nat.reduceLT, Nat.reduceBEq, reduceCtorEq, reduceIte, IV, sts_cons, sts_nil, obs_cons, obs_nil, ks0, ks1, kz0, c1, c2]
      · rintro ⟨n_1, s_2⟩ ⟨sl, ob, n⟩ y3 hI4 hW5 h hy3
        simp only [IV, sts_cons, sts_nil, obs_cons, obs_nil, and_true, true_and, Nat.reduceAdd, str_len] at hI4
        obtain ⟨⟨g6_0, g6_3⟩, hn⟩ := hI4
        subst hn
        obtain ⟨p7, h⟩ := chk_K h
        try simp only [Nat.reduceLeDiff] at p7
        try simp only [go_sem] at p7
        try simp only [go_sem, Int.reduceLT, Int.reduceLE, Int.reduceBEq, Int.reduceBNe, Nat.reduceBNe, Nat.reduceAdd, Nat.reduceMul, Nat.reduceEqDiff, Nat.reduceLeDiff, Nat.reduceLT, Nat.reduceBEq, reduceCtorEq, reduceIte, ks0, ks1, kz0, c1, c2, p7, g6_0, g6_3]
        refine ite_K h (fun c8 h => ?_) (fun c8 h => ?_)
        · replace h := inr_K h hy3
          obtain rfl := Option.some.inj h
          try simp only [go_sem, Int.reduceLT, Int.reduceLE, Int.reduceBEq, Int.reduceBNe, Nat.reduceBNe, Nat.reduceAdd, Nat.reduceMul, Nat.reduceEqDiff, Nat.reduceLeDiff, Nat.reduceLT, Nat.reduceBEq, reduceCtorEq, reduceIte, ks0, ks1, kz0, c1, c2, p7, c8, g6_0, g6_3]
        · try simp only [go_sem, Int.reduceLT, Int.reduceLE, Int.reduceBEq, Int.reduceBNe, Nat.reduceBNe, Nat.reduceAdd, Nat.reduceMul, Nat.reduceEqDiff, Nat.reduceLeDiff, Nat.reduceLT, Nat.reduceBEq, reduceCtorEq, reduceIte, ks0, ks1, kz0, c1, c2, p7, c8, g6_0, g6_3]
          refine ⟨_, [], [], (Option.some.inj h).symm, by decide, ?_⟩
          try simp only [go_sem, Int.reduceLT, Int.reduceLE, Int.reduceBEq, Int.reduceBNe, Nat.reduceBNe, Nat.reduceAdd, Nat.reduceMul, Nat.reduceEqDiff, Nat.reduceLeDiff, Nat.reduceLT, Nat.reduceBEq, reduceCtorEq, reduceIte, ks0, ks1, kz0, c1, c2, p7, c8, g6_0, g6_3, IV, sts_cons, sts_nil, obs_cons, obs_nil]
theorem s_FormatInt_ok {n_0 : Int} {r : ByteArray} (h : s_FormatInt n_0 = some r) : Sound Tryd.prog J0 30 [(false, [.int .i64 n_0])] [(false, [(false, .str r)])] := by
  refine fnk Tryd.func30 (by kernel_rfl) rfl (by kernel_rfl) (by kernel_rfl) ?_
  unfold s_FormatInt at h
  have ks0 : strOk ⟨#[45, 57, 50, 50, 51, 51, 55, 50, 48, 51, 54, 56, 53, 52, 55, 55, 53, 56, 48, 56]⟩ = true := by decide
  have ks1 : strOk ⟨#[45]⟩ = true := by decide
  have ks2 : strOk ⟨#[]⟩ = true := by decide
  have kz0 : ¬ ((10 : Int) = 0) := by decide
  simp only [fnS, f30, argSt, go_sem, Int.reduceLT, Int.reduceLE, Int.reduceBEq, Int.reduceBNe, Nat.reduceBNe, Nat.reduceAdd, Nat.reduceMul, Nat.reduceEqDiff, Nat.reduceLeDiff, Nat.reduceLT, Nat.reduceBEq, reduceCtorEq, reduceIte, ks0, ks1, ks2, kz0]
  refine ite_K h (fun c1 h => ?_) (fun c1 h => ?_)
  · obtain rfl := Option.some.inj h
    try simp only [go_sem, Int.reduceLT, Int.reduceLE, Int.reduceBEq, Int.reduceBNe, Nat.reduceBNe, Nat.reduceAdd, Nat.reduceMul, Nat.reduceEqDiff, Nat.reduceLeDiff, Nat.reduceLT, Nat.reduceBEq, reduceCtorEq, reduceIte, ks0, ks1, ks2, kz0, c1]
  · try simp only [go_sem, Int.reduceLT, Int.reduceLE, Int.reduceBEq, Int.reduceBNe, Nat.reduceBNe, Nat.reduceAdd, Nat.reduceMul, Nat.reduceEqDiff, Nat.reduceLeDiff, Nat.reduceLT, Nat.reduceBEq, reduceCtorEq, reduceIte, ks0, ks1, ks2, kz0, c1]
    refine ite_K h (fun c2 h => ?_) (fun c2 h => ?_)
    · try simp only [go_sem, Int.reduceLT, Int.reduceLE, Int.reduceBEq, Int.reduceBNe, Nat.reduceBNe, Nat.reduceAdd, Nat.reduceMul, Nat.reduceEqDiff, Nat.reduceLeDiff, Nat.reduceLT, Nat.reduceBEq, reduceCtorEq, reduceIte, ks0, ks1, ks2, kz0, c1, c2]
      obtain ⟨v1, e3, h⟩ := bind_K h
      refine call_K (by first | exact s_FormatInt_0_ok e3 | simpa only [go_sem, Int.reduceLT, Int.reduceLE, Int.reduceBEq, Int.reduceBNe, Nat.reduceBNe, Nat.reduceAdd, Nat.reduceMul, Nat.reduceEqDiff, Nat.reduceLeDiff, Nat.reduceLT, Nat.reduceBEq, reduceCtorEq, reduceIte, ks0, ks1, ks2, kz0, c1, c2] using s_FormatInt_0_ok e3) ?_
      obtain ⟨p4, h⟩ := chk_K h
      try simp only [Nat.reduceLeDiff] at p4
      try simp only [go_sem] at p4
      obtain rfl := Option.some.inj h
      try simp only [go_sem, Int.reduceLT, Int.reduceLE, Int.reduceBEq, Int.reduceBNe, Nat.reduceBNe, Nat.reduceAdd, Nat.reduceMul, Nat.reduceEqDiff, Nat.reduceLeDiff, Nat.reduceLT, Nat.reduceBEq, reduceCtorEq, reduceIte, ks0, ks1, ks2, kz0, c1, c2, p4]
    · try simp only [go_sem, Int.reduceLT, Int.reduceLE, Int.reduceBEq, Int.reduceBNe, Nat.reduceBNe, Nat.reduceAdd, Nat.reduceMul, Nat.reduceEqDiff, Nat.reduceLeDiff, Nat.reduceLT, Nat.reduceBEq, reduceCtorEq, reduceIte, ks0, ks1, ks2, kz0, c1, c2]
      refine swp_iter h (fun s st => match s with | (n_2, s_3) => IV [(0, .p false [.c (.int .i64 n_2)]), (3, .p false [.c (.str s_3)])] [] st) [] [] (by decide) ?_ ?_
      · simp only [go_sem, Int.reduceLT, Int.reduceLE, Int.reduceBEq, Int.reduceBNe, Nat.reduceBNe, Nat.reduceAdd, Nat.reduceMul, Nat.reduceEqDiff, Nat.reduceLeDiff, Nat.reduceLT, Nat.reduceBEq, reduceCtorEq, reduceIte, IV, sts_cons, sts_nil, obs_cons, obs_nil, ks0, ks1, ks2, kz0, c1, c2]
      · rintro ⟨n_2, s_3⟩ ⟨sl, ob, n⟩ y5 hI6 hW7 h hy5
        simp only [IV, sts_cons, sts_nil, obs_cons, obs_nil, and_true, true_and, Nat.reduceAdd, str_len] at hI6
        obtain ⟨⟨g8_0, g8_3⟩, hn⟩ := hI6
        subst hn
        obtain ⟨p9, h⟩ := chk_K h
        try simp only [Nat.reduceLeDiff] at p9
        try simp only [go_sem] at p9
        try simp only [go_sem, Int.reduceLT, Int.reduceLE, Int.reduceBEq, Int.reduceBNe, Nat.reduceBNe, Nat.reduceAdd, Nat.reduceMul, Nat.reduceEqDiff, Nat.reduceLeDiff, Nat.reduceLT, Nat.reduceBEq, reduceCtorEq, reduceIte, ks0, ks1, ks2, kz0, c1, c2, p9, g8_0, g8_3]
        refine ite_K h (fun c10 h => ?_) (fun c10 h => ?_)
        · replace h := inr_K h hy5
          obtain rfl := Option.some.inj h
          try simp only [go_sem, Int.reduceLT, Int.reduceLE, Int.reduceBEq, Int.reduceBNe, Nat.reduceBNe, Nat.reduceAdd, Nat.reduceMul, Nat.reduceEqDiff, Nat.reduceLeDiff, Nat.reduceLT, Nat.reduceBEq, reduceCtorEq, reduceIte, ks0, ks1, ks2, kz0, c1, c2, p9, c10, g8_0, g8_3]
        · try simp only [go_sem, Int.reduceLT, Int.reduceLE, Int.reduceBEq, Int.reduceBNe, Nat.reduceBNe, Nat.reduceAdd, Nat.reduceMul, Nat.reduceEqDiff, Nat.reduceLeDiff, Nat.reduceLT, Nat.reduceBEq, reduceCtorEq, reduceIte, ks0, ks1, ks2, kz0, c1, c2, p9, c10, g8_0, g8_3]
          refine ⟨_, [], [], (Option.some.inj h).symm, by decide, ?_⟩
          try simp only [go_sem, Int.reduceLT, Int.reduceLE, Int.reduceBEq, Int.reduceBNe, Nat.reduceBNe, Nat.reduceAdd, Nat.reduceMul, Nat.reduceEqDiff, Nat.reduceLeDiff, Nat.reduceLT, Nat.reduceBEq, reduceCtorEq, reduceIte, ks0, ks1, ks2, kz0, c1, c2, p9, c10, g8_0, g8_3, IV, sts_cons, sts_nil, obs_cons, obs_nil]
theorem i_FormatInt_ok {n_0 : Int} {r : ByteArray} (h : i_FormatInt n_0 = some r) : Sound Tryd.prog J0 31 [(false, [.int .i64 n_0])] [(false, [(false, .str r)])] := by
  refine fnk Tryd.func31 (by kernel_rfl) rfl (by kernel_rfl) (by kernel_rfl) ?_
  unfold i_FormatInt at h
  have ks0 : strOk ⟨#[]⟩ = true := by decide
  simp only [fnS, f31, argSt, go_sem, Int.reduceLT, Int.reduceLE, Int.reduceBEq, Int.reduceBNe, Nat.reduceBNe, Nat.reduceAdd, Nat.reduceMul, Nat.reduceEqDiff, Nat.reduceLeDiff, Nat.reduceLT, Nat.reduceBEq, reduceCtorEq, reduceIte, ks0]
  obtain ⟨v1, e1, h⟩ := bind_K h
  refine call_K (by first | exact x_Itoa_ok e1 | simpa only [go_sem, Int.reduceLT, Int.reduceLE, Int.reduceBEq, Int.reduceBNe, Nat.reduceBNe, Nat.reduceAdd, Nat.reduceMul, Nat.reduceEqDiff, Nat.reduceLeDiff, Nat.reduceLT, Nat.reduceBEq, reduceCtorEq, reduceIte, ks0] using x_Itoa_ok e1) ?_
  obtain rfl := Option.some.inj h
  try simp only [go_sem, Int.reduceLT, Int.reduceLE, Int.reduceBEq, Int.reduceBNe, Nat.reduceBNe, Nat.reduceAdd, Nat.reduceMul, Nat.reduceEqDiff, Nat.reduceLeDiff, Nat.reduceLT, Nat.reduceBEq, reduceCtorEq, reduceIte, ks0]
theorem s_l1In_ok {x_0 : Int} {least_1 : Int} {most_2 : Int} {r : Bool} (h : s_l1In x_0 least_1 most_2 = some r) : Sound Tryd.prog J0 69 [(false, [.int .i64 x_0]), (false, [.int .i64 least_1]), (false, [.int .i64 most_2])] [(false, [(false, .bool r)])] := by
  refine fnk Tryd.func69 (by kernel_rfl) rfl (by kernel_rfl) (by kernel_rfl) ?_
  unfold s_l1In at h
  simp only [fnS, f69, argSt, go_sem, Int.reduceLT, Int.reduceLE, Int.reduceBEq, Int.reduceBNe, Nat.reduceBNe, Nat.reduceAdd, Nat.reduceMul, Nat.reduceEqDiff, Nat.reduceLeDiff, Nat.reduceLT, Nat.reduceBEq, reduceCtorEq, reduceIte]
  refine ite_K h (fun c1 h => ?_) (fun c1 h => ?_)
  · obtain rfl := Option.some.inj h
    try simp only [go_sem, Int.reduceLT, Int.reduceLE, Int.reduceBEq, Int.reduceBNe, Nat.reduceBNe, Nat.reduceAdd, Nat.reduceMul, Nat.reduceEqDiff, Nat.reduceLeDiff, Nat.reduceLT, Nat.reduceBEq, reduceCtorEq, reduceIte, c1]
  · obtain rfl := Option.some.inj h
    try simp only [go_sem, Int.reduceLT, Int.reduceLE, Int.reduceBEq, Int.reduceBNe, Nat.reduceBNe, Nat.reduceAdd, Nat.reduceMul, Nat.reduceEqDiff, Nat.reduceLeDiff, Nat.reduceLT, Nat.reduceBEq, reduceCtorEq, reduceIte, c1]
theorem s_l1Cmp_ok {a_0 : ByteArray} {b_1 : ByteArray} {r : Int} (h : s_l1Cmp a_0 b_1 = some r) : Sound Tryd.prog J0 89 [(false, [.str a_0]), (false, [.str b_1])] [(false, [(false, .int .i64 r)])] := by
  refine fnk Tryd.func89 (by kernel_rfl) rfl (by kernel_rfl) (by kernel_rfl) ?_
  unfold s_l1Cmp at h
  simp only [fnS, f89, argSt, go_sem, Int.reduceLT, Int.reduceLE, Int.reduceBEq, Int.reduceBNe, Nat.reduceBNe, Nat.reduceAdd, Nat.reduceMul, Nat.reduceEqDiff, Nat.reduceLeDiff, Nat.reduceLT, Nat.reduceBEq, reduceCtorEq, reduceIte]
  refine ite_K h (fun c1 h => ?_) (fun c1 h => ?_)
  · obtain rfl := Option.some.inj h
    try simp only [go_sem, Int.reduceLT, Int.reduceLE, Int.reduceBEq, Int.reduceBNe, Nat.reduceBNe, Nat.reduceAdd, Nat.reduceMul, Nat.reduceEqDiff, Nat.reduceLeDiff, Nat.reduceLT, Nat.reduceBEq, reduceCtorEq, reduceIte, c1]
  · try simp only [go_sem, Int.reduceLT, Int.reduceLE, Int.reduceBEq, Int.reduceBNe, Nat.reduceBNe, Nat.reduceAdd, Nat.reduceMul, Nat.reduceEqDiff, Nat.reduceLeDiff, Nat.reduceLT, Nat.reduceBEq, reduceCtorEq, reduceIte, c1]
    refine ite_K h (fun c2 h => ?_) (fun c2 h => ?_)
    · have c2' := c2
      try simp only [c1, Bool.false_or, Bool.or_false] at c2'
      obtain rfl := Option.some.inj h
      try simp only [go_sem, Int.reduceLT, Int.reduceLE, Int.reduceBEq, Int.reduceBNe, Nat.reduceBNe, Nat.reduceAdd, Nat.reduceMul, Nat.reduceEqDiff, Nat.reduceLeDiff, Nat.reduceLT, Nat.reduceBEq, reduceCtorEq, reduceIte, c1, c2, c2']
    · have c2' := c2
      try simp only [c1, Bool.false_or, Bool.or_false] at c2'
      obtain rfl := Option.some.inj h
      try simp only [go_sem, Int.reduceLT, Int.reduceLE, Int.reduceBEq, Int.reduceBNe, Nat.reduceBNe, Nat.reduceAdd, Nat.reduceMul, Nat.reduceEqDiff, Nat.reduceLeDiff, Nat.reduceLT, Nat.reduceBEq, reduceCtorEq, reduceIte, c1, c2, c2']
theorem s_l1Texts_ok {l_0 : (List ByteArray)} {r : (List ByteArray)} (h : s_l1Texts l_0 = some r) : Sound Tryd.prog J0 91 [(false, [.sl 9 1 (List.map eStr l_0)])] [(false, [(false, .sl 9 1 (List.map eStr r))])] := by
  refine fnk Tryd.func91 (by kernel_rfl) rfl (by kernel_rfl) (by kernel_rfl) ?_
  unfold s_l1Texts at h
  simp only [fnS, f91, argSt, go_sem, Int.reduceLT, Int.reduceLE, Int.reduceBEq, Int.reduceBNe, Nat.reduceBNe, Nat.reduceAdd, Nat.reduceMul, Nat.reduceEqDiff, Nat.reduceLeDiff, Nat.reduceLT, Nat.reduceBEq, reduceCtorEq, reduceIte]
  obtain ⟨p1, h⟩ := chk_K h
  try simp only [Nat.reduceLeDiff] at p1
  obtain rfl := Option.some.inj h
  try simp only [go_sem, Int.reduceLT, Int.reduceLE, Int.reduceBEq, Int.reduceBNe, Nat.reduceBNe, Nat.reduceAdd, Nat.reduceMul, Nat.reduceEqDiff, Nat.reduceLeDiff, Nat.reduceLT, Nat.reduceBEq, reduceCtorEq, reduceIte, p1]
end Go.Proofs.YtppjenkjopjeiaaDoor

namespace Go.Proofs.YtppjenkjopjeiaaDoor
open Go.Proofs.Tryd
set_option linter.unusedSimpArgs false
set_option linter.unusedVariables false
set_option maxRecDepth 1000000
set_option maxHeartbeats 4000000
theorem i_sameTexts_ok {a_0 : (List ByteArray)} {b_1 : (List ByteArray)} {r : Bool} (h : i_sameTexts a_0 b_1 = some r) : Sound Tryd.prog J0 92 [(false, [.sl 9 1 (List.map eStr a_0)]), (false, [.sl 9 1 (List.map eStr b_1)])] [(false, [(false, .bool r)])] := by
  refine fnk Tryd.func92 (by kernel_rfl) rfl (by kernel_rfl) (by kernel_rfl) ?_
  unfold i_sameTexts at h
  simp only [fnS, f92, argSt, go_sem, Int.reduceLT, Int.reduceLE, Int.reduceBEq, Int.reduceBNe, Nat.reduceBNe, Nat.reduceAdd, Nat.reduceMul, Nat.reduceEqDiff, Nat.reduceLeDiff, Nat.reduceLT, Nat.reduceBEq, reduceCtorEq, reduceIte]
  refine ite_K h (fun c1 h => ?_) (fun c1 h => ?_)
  · obtain rfl := Option.some.inj h
    try simp only [go_sem, Int.reduceLT, Int.reduceLE, Int.reduceBEq, Int.reduceBNe, Nat.reduceBNe, Nat.reduceAdd, Nat.reduceMul, Nat.reduceEqDiff, Nat.reduceLeDiff, Nat.reduceLT, Nat.reduceBEq, reduceCtorEq, reduceIte, c1]
  · try simp only [go_sem, Int.reduceLT, Int.reduceLE, Int.reduceBEq, Int.reduceBNe, Nat.reduceBNe, Nat.reduceAdd, Nat.reduceMul, Nat.reduceEqDiff, Nat.reduceLeDiff, Nat.reduceLT, Nat.reduceBEq, reduceCtorEq, reduceIte, c1]
    refine swp_for h (fun i _ st => IV [(0, .p false [.c (.sl 9 1 (List.map eStr a_0))]), (1, .p false [.c (.sl 9 1 (List.map eStr b_1))]), (12, .p false [.c (.int .i64 ((a_0.length : Nat) : Int))]), (13, .p false [.c (.int .i64 ((i : Nat) : Int))])] [] st) [] [] (by decide) ?_ ?_ ?_
    · simp only [go_sem, Int.reduceLT, Int.reduceLE, Int.reduceBEq, Int.reduceBNe, Nat.reduceBNe, Nat.reduceAdd, Nat.reduceMul, Nat.reduceEqDiff, Nat.reduceLeDiff, Nat.reduceLT, Nat.reduceBEq, reduceCtorEq, reduceIte, IV, sts_cons, sts_nil, obs_cons, obs_nil, c1]
    · rintro i6 x7 ⟨⟩ ⟨sl, ob, n⟩ y2 hx3 hI4 hW5 h hy2
      simp only [IV, sts_cons, sts_nil, obs_cons, obs_nil, and_true, true_and, Nat.reduceAdd, str_len] at hI4
      obtain ⟨⟨g6_0, g6_1, g6_12, g6_13⟩, hn⟩ := hI4
      subst hn
      have hlhx3 := WF.slotL hW5 g6_0 (j := 0) rfl
      obtain ⟨x8, a7, a8, e9, h⟩ := at_K h
      simp only [Int.toNat_natCast] at e9
      try simp only [go_sem, Int.reduceLT, Int.reduceLE, Int.reduceBEq, Int.reduceBNe, Nat.reduceBNe, Nat.reduceAdd, Nat.reduceMul, Nat.reduceEqDiff, Nat.reduceLeDiff, Nat.reduceLT, Nat.reduceBEq, reduceCtorEq, reduceIte, c1, hx3, lt_t hx3, lt_p hx3, nat_in (lt_n hx3) hlhx3, a7, a8, e9, g6_0, g6_1, g6_12, g6_13]
      refine ite_K h (fun c10 h => ?_) (fun c10 h => ?_)
      · try simp only [go_sem, Int.reduceLT, Int.reduceLE, Int.reduceBEq, Int.reduceBNe, Nat.reduceBNe, Nat.reduceAdd, Nat.reduceMul, Nat.reduceEqDiff, Nat.reduceLeDiff, Nat.reduceLT, Nat.reduceBEq, reduceCtorEq, reduceIte, c1, hx3, lt_t hx3, lt_p hx3, nat_in (lt_n hx3) hlhx3, a7, a8, e9, c10, g6_0, g6_1, g6_12, g6_13]
        refine ⟨_, [], [], (Option.some.inj h).symm, by decide, ?_⟩
        try simp only [go_sem, Int.reduceLT, Int.reduceLE, Int.reduceBEq, Int.reduceBNe, Nat.reduceBNe, Nat.reduceAdd, Nat.reduceMul, Nat.reduceEqDiff, Nat.reduceLeDiff, Nat.reduceLT, Nat.reduceBEq, reduceCtorEq, reduceIte, c1, hx3, lt_t hx3, lt_p hx3, nat_in (lt_n hx3) hlhx3, a7, a8, e9, c10, g6_0, g6_1, g6_12, g6_13, IV, sts_cons, sts_nil, obs_cons, obs_nil]
      · replace h := inr_K h hy2
        obtain rfl := Option.some.inj h
        try simp only [go_sem, Int.reduceLT, Int.reduceLE, Int.reduceBEq, Int.reduceBNe, Nat.reduceBNe, Nat.reduceAdd, Nat.reduceMul, Nat.reduceEqDiff, Nat.reduceLeDiff, Nat.reduceLT, Nat.reduceBEq, reduceCtorEq, reduceIte, c1, hx3, lt_t hx3, lt_p hx3, nat_in (lt_n hx3) hlhx3, a7, a8, e9, c10, g6_0, g6_1, g6_12, g6_13]
    · rintro ⟨⟩ ⟨sl, ob, n⟩ hI11 hW12 h
      simp only [IV, sts_cons, sts_nil, obs_cons, obs_nil, and_true, true_and, Nat.reduceAdd, str_len] at hI11
      obtain ⟨⟨g13_0, g13_1, g13_12, g13_13⟩, hn⟩ := hI11
      subst hn
      obtain rfl := Option.some.inj h
      try simp only [go_sem, Int.reduceLT, Int.reduceLE, Int.reduceBEq, Int.reduceBNe, Nat.reduceBNe, Nat.reduceAdd, Nat.reduceMul, Nat.reduceEqDiff, Nat.reduceLeDiff, Nat.reduceLT, Nat.reduceBEq, reduceCtorEq, reduceIte, c1, lt_f (a_0.length), g13_0, g13_1, g13_12, g13_13]
theorem i_compareInts_ok {a_0 : Int} {b_1 : Int} {r : Int} (h : i_compareInts a_0 b_1 = some r) : Sound Tryd.prog J0 95 [(false, [.int .i64 a_0]), (false, [.int .i64 b_1])] [(false, [(false, .int .i64 r)])] := by
  refine fnk Tryd.func95 (by kernel_rfl) rfl (by kernel_rfl) (by kernel_rfl) ?_
  unfold i_compareInts at h
  simp only [fnS, f95, argSt, go_sem, Int.reduceLT, Int.reduceLE, Int.reduceBEq, Int.reduceBNe, Nat.reduceBNe, Nat.reduceAdd, Nat.reduceMul, Nat.reduceEqDiff, Nat.reduceLeDiff, Nat.reduceLT, Nat.reduceBEq, reduceCtorEq, reduceIte]
  refine ite_K h (fun c1 h => ?_) (fun c1 h => ?_)
  · obtain rfl := Option.some.inj h
    try simp only [go_sem, Int.reduceLT, Int.reduceLE, Int.reduceBEq, Int.reduceBNe, Nat.reduceBNe, Nat.reduceAdd, Nat.reduceMul, Nat.reduceEqDiff, Nat.reduceLeDiff, Nat.reduceLT, Nat.reduceBEq, reduceCtorEq, reduceIte, c1]
  · try simp only [go_sem, Int.reduceLT, Int.reduceLE, Int.reduceBEq, Int.reduceBNe, Nat.reduceBNe, Nat.reduceAdd, Nat.reduceMul, Nat.reduceEqDiff, Nat.reduceLeDiff, Nat.reduceLT, Nat.reduceBEq, reduceCtorEq, reduceIte, c1]
    refine ite_K h (fun c2 h => ?_) (fun c2 h => ?_)
    · obtain rfl := Option.some.inj h
      try simp only [go_sem, Int.reduceLT, Int.reduceLE, Int.reduceBEq, Int.reduceBNe, Nat.reduceBNe, Nat.reduceAdd, Nat.reduceMul, Nat.reduceEqDiff, Nat.reduceLeDiff, Nat.reduceLT, Nat.reduceBEq, reduceCtorEq, reduceIte, c1, c2]
    · obtain rfl := Option.some.inj h
      try simp only [go_sem, Int.reduceLT, Int.reduceLE, Int.reduceBEq, Int.reduceBNe, Nat.reduceBNe, Nat.reduceAdd, Nat.reduceMul, Nat.reduceEqDiff, Nat.reduceLeDiff, Nat.reduceLT, Nat.reduceBEq, reduceCtorEq, reduceIte, c1, c2]
theorem i_copyTexts_ok {l_0 : (List ByteArray)} {r : (List ByteArray)} (h : i_copyTexts l_0 = some r) : Sound Tryd.prog J0 96 [(false, [.sl 9 1 (List.map eStr l_0)])] [(false, [(false, .sl 9 1 (List.map eStr r))])] := by
  refine fnk Tryd.func96 (by kernel_rfl) rfl (by kernel_rfl) (by kernel_rfl) ?_
  unfold i_copyTexts at h
  simp only [fnS, f96, argSt, go_sem, Int.reduceLT, Int.reduceLE, Int.reduceBEq, Int.reduceBNe, Nat.reduceBNe, Nat.reduceAdd, Nat.reduceMul, Nat.reduceEqDiff, Nat.reduceLeDiff, Nat.reduceLT, Nat.reduceBEq, reduceCtorEq, reduceIte]
  obtain ⟨p1, h⟩ := chk_K h
  try simp only [Nat.reduceLeDiff] at p1
  obtain rfl := Option.some.inj h
  try simp only [go_sem, Int.reduceLT, Int.reduceLE, Int.reduceBEq, Int.reduceBNe, Nat.reduceBNe, Nat.reduceAdd, Nat.reduceMul, Nat.reduceEqDiff, Nat.reduceLeDiff, Nat.reduceLT, Nat.reduceBEq, reduceCtorEq, reduceIte, p1]
end Go.Proofs.YtppjenkjopjeiaaDoor

namespace Go.Proofs.YtppjenkjopjeiaaDoor
open Go.Proofs.Tryd
set_option linter.unusedSimpArgs false
set_option linter.unusedVariables false
set_option maxRecDepth 1000000
set_option maxHeartbeats 4000000
theorem s_ParseInt_ok {s_0 : ByteArray} {r : (Int × Bool)} (h : s_ParseInt s_0 = some r) : Sound Tryd.prog J0 100 [(false, [.str s_0])] [(false, [(false, .int .i64 r.1)]), (false, [(false, .bool r.2)])] := by
  refine fnk Tryd.func100 (by kernel_rfl) rfl (by kernel_rfl) (by kernel_rfl) ?_
  unfold s_ParseInt at h
  simp only [fnS, f100, argSt, go_sem, Int.reduceLT, Int.reduceLE, Int.reduceBEq, Int.reduceBNe, Nat.reduceBNe, Nat.reduceAdd, Nat.reduceMul, Nat.reduceEqDiff, Nat.reduceLeDiff, Nat.reduceLT, Nat.reduceBEq, reduceCtorEq, reduceIte]
  obtain ⟨v1, e1, h⟩ := bind_K h
  refine call_K (by first | exact s_l1In_ok e1 | simpa only [go_sem, Int.reduceLT, Int.reduceLE, Int.reduceBEq, Int.reduceBNe, Nat.reduceBNe, Nat.reduceAdd, Nat.reduceMul, Nat.reduceEqDiff, Nat.reduceLeDiff, Nat.reduceLT, Nat.reduceBEq, reduceCtorEq, reduceIte] using s_l1In_ok e1) ?_
  try simp only [go_sem, Int.reduceLT, Int.reduceLE, Int.reduceBEq, Int.reduceBNe, Nat.reduceBNe, Nat.reduceAdd, Nat.reduceMul, Nat.reduceEqDiff, Nat.reduceLeDiff, Nat.reduceLT, Nat.reduceBEq, reduceCtorEq, reduceIte]
  refine ite_K h (fun c2 h => ?_) (fun c2 h => ?_)
  · try simp only [go_sem, Int.reduceLT, Int.reduceLE, Int.reduceBEq, Int.reduceBNe, Nat.reduceBNe, Nat.reduceAdd, Nat.reduceMul, Nat.reduceEqDiff, Nat.reduceLeDiff, Nat.reduceLT, Nat.reduceBEq, reduceCtorEq, reduceIte, c2]
    refine swp_for h (fun i n_3 st => IV [(0, .p false [.c (.str s_0)]), (4, .p false [.c (.int .i64 n_3)]), (5, .p false [.c (.int .i64 ((i : Nat) : Int))])] [] st) [] [] (by decide) ?_ ?_ ?_
    · simp only [go_sem, Int.reduceLT, Int.reduceLE, Int.reduceBEq, Int.reduceBNe, Nat.reduceBNe, Nat.reduceAdd, Nat.reduceMul, Nat.reduceEqDiff, Nat.reduceLeDiff, Nat.reduceLT, Nat.reduceBEq, reduceCtorEq, reduceIte, IV, sts_cons, sts_nil, obs_cons, obs_nil, c2]
    · rintro i7 x8 n_3 ⟨sl, ob, n⟩ y3 hx4 hI5 hW6 h hy3
      simp only [IV, sts_cons, sts_nil, obs_cons, obs_nil, and_true, true_and, Nat.reduceAdd, str_len] at hI5
      obtain ⟨⟨g7_0, g7_4, g7_5⟩, hn⟩ := hI5
      subst hn
      have hlhx4 := WF.slotS hW6 g7_0 (j := 0) rfl
      try simp only [go_sem, Int.reduceLT, Int.reduceLE, Int.reduceBEq, Int.reduceBNe, Nat.reduceBNe, Nat.reduceAdd, Nat.reduceMul, Nat.reduceEqDiff, Nat.reduceLeDiff, Nat.reduceLT, Nat.reduceBEq, reduceCtorEq, reduceIte, c2, str_at hx4, slt_t hx4, nat_in (slt_n hx4) hlhx4, g7_0, g7_4, g7_5]
      refine ite_K h (fun c8 h => ?_) (fun c8 h => ?_)
      · replace h := inr_K h hy3
        obtain rfl := Option.some.inj h
        try simp only [go_sem, Int.reduceLT, Int.reduceLE, Int.reduceBEq, Int.reduceBNe, Nat.reduceBNe, Nat.reduceAdd, Nat.reduceMul, Nat.reduceEqDiff, Nat.reduceLeDiff, Nat.reduceLT, Nat.reduceBEq, reduceCtorEq, reduceIte, c2, str_at hx4, slt_t hx4, nat_in (slt_n hx4) hlhx4, c8, g7_0, g7_4, g7_5]
      · try simp only [go_sem, Int.reduceLT, Int.reduceLE, Int.reduceBEq, Int.reduceBNe, Nat.reduceBNe, Nat.reduceAdd, Nat.reduceMul, Nat.reduceEqDiff, Nat.reduceLeDiff, Nat.reduceLT, Nat.reduceBEq, reduceCtorEq, reduceIte, c2, str_at hx4, slt_t hx4, nat_in (slt_n hx4) hlhx4, c8, g7_0, g7_4, g7_5]
        refine ite_K h (fun c9 h => ?_) (fun c9 h => ?_)
        · replace h := inr_K h hy3
          obtain rfl := Option.some.inj h
          try simp only [go_sem, Int.reduceLT, Int.reduceLE, Int.reduceBEq, Int.reduceBNe, Nat.reduceBNe, Nat.reduceAdd, Nat.reduceMul, Nat.reduceEqDiff, Nat.reduceLeDiff, Nat.reduceLT, Nat.reduceBEq, reduceCtorEq, reduceIte, c2, str_at hx4, slt_t hx4, nat_in (slt_n hx4) hlhx4, c8, c9, g7_0, g7_4, g7_5]
        · try simp only [go_sem, Int.reduceLT, Int.reduceLE, Int.reduceBEq, Int.reduceBNe, Nat.reduceBNe, Nat.reduceAdd, Nat.reduceMul, Nat.reduceEqDiff, Nat.reduceLeDiff, Nat.reduceLT, Nat.reduceBEq, reduceCtorEq, reduceIte, c2, str_at hx4, slt_t hx4, nat_in (slt_n hx4) hlhx4, c8, c9, g7_0, g7_4, g7_5]
          refine ⟨_, [], [], (Option.some.inj h).symm, by decide, ?_⟩
          try simp only [go_sem, Int.reduceLT, Int.reduceLE, Int.reduceBEq, Int.reduceBNe, Nat.reduceBNe, Nat.reduceAdd, Nat.reduceMul, Nat.reduceEqDiff, Nat.reduceLeDiff, Nat.reduceLT, Nat.reduceBEq, reduceCtorEq, reduceIte, c2, str_at hx4, slt_t hx4, nat_in (slt_n hx4) hlhx4, c8, c9, g7_0, g7_4, g7_5, IV, sts_cons, sts_nil, obs_cons, obs_nil]
    · rintro n_3 ⟨sl, ob, n⟩ hI10 hW11 h
      simp only [IV, sts_cons, sts_nil, obs_cons, obs_nil, and_true, true_and, Nat.reduceAdd, str_len] at hI10
      obtain ⟨⟨g12_0, g12_4, g12_5⟩, hn⟩ := hI10
      subst hn
      try simp only [go_sem, Int.reduceLT, Int.reduceLE, Int.reduceBEq, Int.reduceBNe, Nat.reduceBNe, Nat.reduceAdd, Nat.reduceMul, Nat.reduceEqDiff, Nat.reduceLeDiff, Nat.reduceLT, Nat.reduceBEq, reduceCtorEq, reduceIte, c2, lt_f (s_0.size), g12_0, g12_4, g12_5]
      obtain ⟨v9, e13, h⟩ := bind_K h
      refine call_K (by first | exact s_FormatInt_ok e13 | simpa only [go_sem, Int.reduceLT, Int.reduceLE, Int.reduceBEq, Int.reduceBNe, Nat.reduceBNe, Nat.reduceAdd, Nat.reduceMul, Nat.reduceEqDiff, Nat.reduceLeDiff, Nat.reduceLT, Nat.reduceBEq, reduceCtorEq, reduceIte, c2, lt_f (s_0.size), g12_0, g12_4, g12_5] using s_FormatInt_ok e13) ?_
      try simp only [go_sem, Int.reduceLT, Int.reduceLE, Int.reduceBEq, Int.reduceBNe, Nat.reduceBNe, Nat.reduceAdd, Nat.reduceMul, Nat.reduceEqDiff, Nat.reduceLeDiff, Nat.reduceLT, Nat.reduceBEq, reduceCtorEq, reduceIte, c2, lt_f (s_0.size), g12_0, g12_4, g12_5]
      refine ite_K h (fun c14 h => ?_) (fun c14 h => ?_)
      · obtain rfl := Option.some.inj h
        try simp only [go_sem, Int.reduceLT, Int.reduceLE, Int.reduceBEq, Int.reduceBNe, Nat.reduceBNe, Nat.reduceAdd, Nat.reduceMul, Nat.reduceEqDiff, Nat.reduceLeDiff, Nat.reduceLT, Nat.reduceBEq, reduceCtorEq, reduceIte, c2, lt_f (s_0.size), c14, g12_0, g12_4, g12_5]
      · obtain rfl := Option.some.inj h
        try simp only [go_sem, Int.reduceLT, Int.reduceLE, Int.reduceBEq, Int.reduceBNe, Nat.reduceBNe, Nat.reduceAdd, Nat.reduceMul, Nat.reduceEqDiff, Nat.reduceLeDiff, Nat.reduceLT, Nat.reduceBEq, reduceCtorEq, reduceIte, c2, lt_f (s_0.size), c14, g12_0, g12_4, g12_5]
  · obtain rfl := Option.some.inj h
    try simp only [go_sem, Int.reduceLT, Int.reduceLE, Int.reduceBEq, Int.reduceBNe, Nat.reduceBNe, Nat.reduceAdd, Nat.reduceMul, Nat.reduceEqDiff, Nat.reduceLeDiff, Nat.reduceLT, Nat.reduceBEq, reduceCtorEq, reduceIte, c2]
theorem s_l2Copy_ok {f_0 : FactD} {r : FactD} (h : s_l2Copy f_0 = some r) : Sound Tryd.prog J0 76 [(true, eFact f_0)] [(true, [(false, .str r.rel), (false, .sl 9 1 (List.map eStr r.args))])] := by
  refine fnk Tryd.func76 (by kernel_rfl) rfl (by kernel_rfl) (by kernel_rfl) ?_
  unfold s_l2Copy at h
  simp only [fnS, f76, argSt, go_sem, Int.reduceLT, Int.reduceLE, Int.reduceBEq, Int.reduceBNe, Nat.reduceBNe, Nat.reduceAdd, Nat.reduceMul, Nat.reduceEqDiff, Nat.reduceLeDiff, Nat.reduceLT, Nat.reduceBEq, reduceCtorEq, reduceIte]
  obtain ⟨v1, e1, h⟩ := bind_K h
  refine call_K (by first | exact s_l1Texts_ok e1 | simpa only [go_sem, Int.reduceLT, Int.reduceLE, Int.reduceBEq, Int.reduceBNe, Nat.reduceBNe, Nat.reduceAdd, Nat.reduceMul, Nat.reduceEqDiff, Nat.reduceLeDiff, Nat.reduceLT, Nat.reduceBEq, reduceCtorEq, reduceIte] using s_l1Texts_ok e1) ?_
  obtain rfl := Option.some.inj h
  try simp only [go_sem, Int.reduceLT, Int.reduceLE, Int.reduceBEq, Int.reduceBNe, Nat.reduceBNe, Nat.reduceAdd, Nat.reduceMul, Nat.reduceEqDiff, Nat.reduceLeDiff, Nat.reduceLT, Nat.reduceBEq, reduceCtorEq, reduceIte]
theorem i_sameFact_ok {a_0 : FactD} {b_1 : FactD} {r : Bool} (h : i_sameFact a_0 b_1 = some r) : Sound Tryd.prog J0 77 [(true, eFact a_0), (true, eFact b_1)] [(false, [(false, .bool r)])] := by
  refine fnk Tryd.func77 (by kernel_rfl) rfl (by kernel_rfl) (by kernel_rfl) ?_
  unfold i_sameFact at h
  simp only [fnS, f77, argSt, go_sem, Int.reduceLT, Int.reduceLE, Int.reduceBEq, Int.reduceBNe, Nat.reduceBNe, Nat.reduceAdd, Nat.reduceMul, Nat.reduceEqDiff, Nat.reduceLeDiff, Nat.reduceLT, Nat.reduceBEq, reduceCtorEq, reduceIte]
  refine ite_K h (fun c1 h => ?_) (fun c1 h => ?_)
  · try simp only [go_sem, Int.reduceLT, Int.reduceLE, Int.reduceBEq, Int.reduceBNe, Nat.reduceBNe, Nat.reduceAdd, Nat.reduceMul, Nat.reduceEqDiff, Nat.reduceLeDiff, Nat.reduceLT, Nat.reduceBEq, reduceCtorEq, reduceIte, c1]
    obtain ⟨v1, e2, h⟩ := bind_K h
    refine call_K (by first | exact i_sameTexts_ok e2 | simpa only [go_sem, Int.reduceLT, Int.reduceLE, Int.reduceBEq, Int.reduceBNe, Nat.reduceBNe, Nat.reduceAdd, Nat.reduceMul, Nat.reduceEqDiff, Nat.reduceLeDiff, Nat.reduceLT, Nat.reduceBEq, reduceCtorEq, reduceIte, c1] using i_sameTexts_ok e2) ?_
    obtain rfl := Option.some.inj h
    try simp only [go_sem, Int.reduceLT, Int.reduceLE, Int.reduceBEq, Int.reduceBNe, Nat.reduceBNe, Nat.reduceAdd, Nat.reduceMul, Nat.reduceEqDiff, Nat.reduceLeDiff, Nat.reduceLT, Nat.reduceBEq, reduceCtorEq, reduceIte, c1]
  · obtain rfl := Option.some.inj h
    try simp only [go_sem, Int.reduceLT, Int.reduceLE, Int.reduceBEq, Int.reduceBNe, Nat.reduceBNe, Nat.reduceAdd, Nat.reduceMul, Nat.reduceEqDiff, Nat.reduceLeDiff, Nat.reduceLT, Nat.reduceBEq, reduceCtorEq, reduceIte, c1]
end Go.Proofs.YtppjenkjopjeiaaDoor

namespace Go.Proofs.YtppjenkjopjeiaaDoor
open Go.Proofs.Tryd
set_option linter.unusedSimpArgs false
set_option linter.unusedVariables false
set_option maxRecDepth 1000000
set_option maxHeartbeats 4000000
theorem i_ParseInt_ok {s_0 : ByteArray} {r : (Int × Bool)} (h : i_ParseInt s_0 = some r) : Sound Tryd.prog J0 102 [(false, [.str s_0])] [(false, [(false, .int .i64 r.1)]), (false, [(false, .bool r.2)])] := by
  refine fnk Tryd.func102 (by kernel_rfl) rfl (by kernel_rfl) (by kernel_rfl) ?_
  unfold i_ParseInt at h
  simp only [fnS, f102, argSt, go_sem, Int.reduceLT, Int.reduceLE, Int.reduceBEq, Int.reduceBNe, Nat.reduceBNe, Nat.reduceAdd, Nat.reduceMul, Nat.reduceEqDiff, Nat.reduceLeDiff, Nat.reduceLT, Nat.reduceBEq, reduceCtorEq, reduceIte]
  refine ite_K h (fun c1 h => ?_) (fun c1 h => ?_)
  · obtain rfl := Option.some.inj h
    try simp only [go_sem, Int.reduceLT, Int.reduceLE, Int.reduceBEq, Int.reduceBNe, Nat.reduceBNe, Nat.reduceAdd, Nat.reduceMul, Nat.reduceEqDiff, Nat.reduceLeDiff, Nat.reduceLT, Nat.reduceBEq, reduceCtorEq, reduceIte, c1]
  · try simp only [go_sem, Int.reduceLT, Int.reduceLE, Int.reduceBEq, Int.reduceBNe, Nat.reduceBNe, Nat.reduceAdd, Nat.reduceMul, Nat.reduceEqDiff, Nat.reduceLeDiff, Nat.reduceLT, Nat.reduceBEq, reduceCtorEq, reduceIte, c1]
    refine ite_K h (fun c2 h => ?_) (fun c2 h => ?_)
    · obtain rfl := Option.some.inj h
      try simp only [go_sem, Int.reduceLT, Int.reduceLE, Int.reduceBEq, Int.reduceBNe, Nat.reduceBNe, Nat.reduceAdd, Nat.reduceMul, Nat.reduceEqDiff, Nat.reduceLeDiff, Nat.reduceLT, Nat.reduceBEq, reduceCtorEq, reduceIte, c1, c2]
    · try simp only [go_sem, Int.reduceLT, Int.reduceLE, Int.reduceBEq, Int.reduceBNe, Nat.reduceBNe, Nat.reduceAdd, Nat.reduceMul, Nat.reduceEqDiff, Nat.reduceLeDiff, Nat.reduceLT, Nat.reduceBEq, reduceCtorEq, reduceIte, c1, c2]
      obtain ⟨v1, e3, h⟩ := bind_K h
      refine call_K (by first | exact x_Atoi_ok e3 | simpa only [go_sem, Int.reduceLT, Int.reduceLE, Int.reduceBEq, Int.reduceBNe, Nat.reduceBNe, Nat.reduceAdd, Nat.reduceMul, Nat.reduceEqDiff, Nat.reduceLeDiff, Nat.reduceLT, Nat.reduceBEq, reduceCtorEq, reduceIte, c1, c2] using x_Atoi_ok e3) ?_
      try simp only [go_sem, Int.reduceLT, Int.reduceLE, Int.reduceBEq, Int.reduceBNe, Nat.reduceBNe, Nat.reduceAdd, Nat.reduceMul, Nat.reduceEqDiff, Nat.reduceLeDiff, Nat.reduceLT, Nat.reduceBEq, reduceCtorEq, reduceIte, c1, c2]
      refine ite_K h (fun c4 h => ?_) (fun c4 h => ?_)
      · try simp only [go_sem, Int.reduceLT, Int.reduceLE, Int.reduceBEq, Int.reduceBNe, Nat.reduceBNe, Nat.reduceAdd, Nat.reduceMul, Nat.reduceEqDiff, Nat.reduceLeDiff, Nat.reduceLT, Nat.reduceBEq, reduceCtorEq, reduceIte, c1, c2, c4]
        refine ite_K h (fun c5 h => ?_) (fun c5 h => ?_)
        · obtain rfl := Option.some.inj h
          try simp only [go_sem, Int.reduceLT, Int.reduceLE, Int.reduceBEq, Int.reduceBNe, Nat.reduceBNe, Nat.reduceAdd, Nat.reduceMul, Nat.reduceEqDiff, Nat.reduceLeDiff, Nat.reduceLT, Nat.reduceBEq, reduceCtorEq, reduceIte, c1, c2, c4, c5]
        · try simp only [go_sem, Int.reduceLT, Int.reduceLE, Int.reduceBEq, Int.reduceBNe, Nat.reduceBNe, Nat.reduceAdd, Nat.reduceMul, Nat.reduceEqDiff, Nat.reduceLeDiff, Nat.reduceLT, Nat.reduceBEq, reduceCtorEq, reduceIte, c1, c2, c4, c5]
          refine ite_K h (fun c6 h => ?_) (fun c6 h => ?_)
          · obtain rfl := Option.some.inj h
            try simp only [go_sem, Int.reduceLT, Int.reduceLE, Int.reduceBEq, Int.reduceBNe, Nat.reduceBNe, Nat.reduceAdd, Nat.reduceMul, Nat.reduceEqDiff, Nat.reduceLeDiff, Nat.reduceLT, Nat.reduceBEq, reduceCtorEq, reduceIte, c1, c2, c4, c5, c6]
          · try simp only [go_sem, Int.reduceLT, Int.reduceLE, Int.reduceBEq, Int.reduceBNe, Nat.reduceBNe, Nat.reduceAdd, Nat.reduceMul, Nat.reduceEqDiff, Nat.reduceLeDiff, Nat.reduceLT, Nat.reduceBEq, reduceCtorEq, reduceIte, c1, c2, c4, c5, c6]
            obtain ⟨v2, e7, h⟩ := bind_K h
            refine call_K (by first | exact i_FormatInt_ok e7 | simpa only [go_sem, Int.reduceLT, Int.reduceLE, Int.reduceBEq, Int.reduceBNe, Nat.reduceBNe, Nat.reduceAdd, Nat.reduceMul, Nat.reduceEqDiff, Nat.reduceLeDiff, Nat.reduceLT, Nat.reduceBEq, reduceCtorEq, reduceIte, c1, c2, c4, c5, c6] using i_FormatInt_ok e7) ?_
            try simp only [go_sem, Int.reduceLT, Int.reduceLE, Int.reduceBEq, Int.reduceBNe, Nat.reduceBNe, Nat.reduceAdd, Nat.reduceMul, Nat.reduceEqDiff, Nat.reduceLeDiff, Nat.reduceLT, Nat.reduceBEq, reduceCtorEq, reduceIte, c1, c2, c4, c5, c6]
            refine ite_K h (fun c8 h => ?_) (fun c8 h => ?_)
            · obtain rfl := Option.some.inj h
              try simp only [go_sem, Int.reduceLT, Int.reduceLE, Int.reduceBEq, Int.reduceBNe, Nat.reduceBNe, Nat.reduceAdd, Nat.reduceMul, Nat.reduceEqDiff, Nat.reduceLeDiff, Nat.reduceLT, Nat.reduceBEq, reduceCtorEq, reduceIte, c1, c2, c4, c5, c6, c8]
            · obtain rfl := Option.some.inj h
              try simp only [go_sem, Int.reduceLT, Int.reduceLE, Int.reduceBEq, Int.reduceBNe, Nat.reduceBNe, Nat.reduceAdd, Nat.reduceMul, Nat.reduceEqDiff, Nat.reduceLeDiff, Nat.reduceLT, Nat.reduceBEq, reduceCtorEq, reduceIte, c1, c2, c4, c5, c6, c8]
      · obtain rfl := Option.some.inj h
        try simp only [go_sem, Int.reduceLT, Int.reduceLE, Int.reduceBEq, Int.reduceBNe, Nat.reduceBNe, Nat.reduceAdd, Nat.reduceMul, Nat.reduceEqDiff, Nat.reduceLeDiff, Nat.reduceLT, Nat.reduceBEq, reduceCtorEq, reduceIte, c1, c2, c4]
theorem i_copyFact_ok {f_0 : FactD} {r : FactD} (h : i_copyFact f_0 = some r) : Sound Tryd.prog J0 79 [(true, eFact f_0)] [(true, [(false, .str r.rel), (false, .sl 9 1 (List.map eStr r.args))])] := by
  refine fnk Tryd.func79 (by kernel_rfl) rfl (by kernel_rfl) (by kernel_rfl) ?_
  unfold i_copyFact at h
  simp only [fnS, f79, argSt, go_sem, Int.reduceLT, Int.reduceLE, Int.reduceBEq, Int.reduceBNe, Nat.reduceBNe, Nat.reduceAdd, Nat.reduceMul, Nat.reduceEqDiff, Nat.reduceLeDiff, Nat.reduceLT, Nat.reduceBEq, reduceCtorEq, reduceIte]
  obtain ⟨v1, e1, h⟩ := bind_K h
  refine call_K (by first | exact i_copyTexts_ok e1 | simpa only [go_sem, Int.reduceLT, Int.reduceLE, Int.reduceBEq, Int.reduceBNe, Nat.reduceBNe, Nat.reduceAdd, Nat.reduceMul, Nat.reduceEqDiff, Nat.reduceLeDiff, Nat.reduceLT, Nat.reduceBEq, reduceCtorEq, reduceIte] using i_copyTexts_ok e1) ?_
  obtain rfl := Option.some.inj h
  try simp only [go_sem, Int.reduceLT, Int.reduceLE, Int.reduceBEq, Int.reduceBNe, Nat.reduceBNe, Nat.reduceAdd, Nat.reduceMul, Nat.reduceEqDiff, Nat.reduceLeDiff, Nat.reduceLT, Nat.reduceBEq, reduceCtorEq, reduceIte]
end Go.Proofs.YtppjenkjopjeiaaDoor

namespace Go.Proofs.YtppjenkjopjeiaaDoor
open Go.Proofs.Tryd
set_option linter.unusedSimpArgs false
set_option linter.unusedVariables false
set_option maxRecDepth 1000000
set_option maxHeartbeats 4000000
theorem s_CompareAtoms_ok {a_0 : ByteArray} {b_1 : ByteArray} {r : Int} (h : s_CompareAtoms a_0 b_1 = some r) : Sound Tryd.prog J0 90 [(false, [.str a_0]), (false, [.str b_1])] [(false, [(false, .int .i64 r)])] := by
  refine fnk Tryd.func90 (by kernel_rfl) rfl (by kernel_rfl) (by kernel_rfl) ?_
  unfold s_CompareAtoms at h
  simp only [fnS, f90, argSt, go_sem, Int.reduceLT, Int.reduceLE, Int.reduceBEq, Int.reduceBNe, Nat.reduceBNe, Nat.reduceAdd, Nat.reduceMul, Nat.reduceEqDiff, Nat.reduceLeDiff, Nat.reduceLT, Nat.reduceBEq, reduceCtorEq, reduceIte]
  obtain ⟨v1, e1, h⟩ := bind_K h
  refine call_K (by first | exact s_ParseInt_ok e1 | simpa only [go_sem, Int.reduceLT, Int.reduceLE, Int.reduceBEq, Int.reduceBNe, Nat.reduceBNe, Nat.reduceAdd, Nat.reduceMul, Nat.reduceEqDiff, Nat.reduceLeDiff, Nat.reduceLT, Nat.reduceBEq, reduceCtorEq, reduceIte] using s_ParseInt_ok e1) ?_
  try simp only [go_sem, Int.reduceLT, Int.reduceLE, Int.reduceBEq, Int.reduceBNe, Nat.reduceBNe, Nat.reduceAdd, Nat.reduceMul, Nat.reduceEqDiff, Nat.reduceLeDiff, Nat.reduceLT, Nat.reduceBEq, reduceCtorEq, reduceIte]
  obtain ⟨v2, e2, h⟩ := bind_K h
  refine call_K (by first | exact s_ParseInt_ok e2 | simpa only [go_sem, Int.reduceLT, Int.reduceLE, Int.reduceBEq, Int.reduceBNe, Nat.reduceBNe, Nat.reduceAdd, Nat.reduceMul, Nat.reduceEqDiff, Nat.reduceLeDiff, Nat.reduceLT, Nat.reduceBEq, reduceCtorEq, reduceIte] using s_ParseInt_ok e2) ?_
  try simp only [go_sem, Int.reduceLT, Int.reduceLE, Int.reduceBEq, Int.reduceBNe, Nat.reduceBNe, Nat.reduceAdd, Nat.reduceMul, Nat.reduceEqDiff, Nat.reduceLeDiff, Nat.reduceLT, Nat.reduceBEq, reduceCtorEq, reduceIte]
  refine ite_K h (fun c3 h => ?_) (fun c3 h => ?_)
  · try simp only [go_sem, Int.reduceLT, Int.reduceLE, Int.reduceBEq, Int.reduceBNe, Nat.reduceBNe, Nat.reduceAdd, Nat.reduceMul, Nat.reduceEqDiff, Nat.reduceLeDiff, Nat.reduceLT, Nat.reduceBEq, reduceCtorEq, reduceIte, c3]
    refine ite_K h (fun c4 h => ?_) (fun c4 h => ?_)
    · try simp only [go_sem, Int.reduceLT, Int.reduceLE, Int.reduceBEq, Int.reduceBNe, Nat.reduceBNe, Nat.reduceAdd, Nat.reduceMul, Nat.reduceEqDiff, Nat.reduceLeDiff, Nat.reduceLT, Nat.reduceBEq, reduceCtorEq, reduceIte, c3, c4]
      refine ite_K h (fun c5 h => ?_) (fun c5 h => ?_)
      · obtain rfl := Option.some.inj h
        try simp only [go_sem, Int.reduceLT, Int.reduceLE, Int.reduceBEq, Int.reduceBNe, Nat.reduceBNe, Nat.reduceAdd, Nat.reduceMul, Nat.reduceEqDiff, Nat.reduceLeDiff, Nat.reduceLT, Nat.reduceBEq, reduceCtorEq, reduceIte, c3, c4, c5]
      · try simp only [go_sem, Int.reduceLT, Int.reduceLE, Int.reduceBEq, Int.reduceBNe, Nat.reduceBNe, Nat.reduceAdd, Nat.reduceMul, Nat.reduceEqDiff, Nat.reduceLeDiff, Nat.reduceLT, Nat.reduceBEq, reduceCtorEq, reduceIte, c3, c4, c5]
        refine ite_K h (fun c6 h => ?_) (fun c6 h => ?_)
        · obtain rfl := Option.some.inj h
          try simp only [go_sem, Int.reduceLT, Int.reduceLE, Int.reduceBEq, Int.reduceBNe, Nat.reduceBNe, Nat.reduceAdd, Nat.reduceMul, Nat.reduceEqDiff, Nat.reduceLeDiff, Nat.reduceLT, Nat.reduceBEq, reduceCtorEq, reduceIte, c3, c4, c5, c6]
        · obtain rfl := Option.some.inj h
          try simp only [go_sem, Int.reduceLT, Int.reduceLE, Int.reduceBEq, Int.reduceBNe, Nat.reduceBNe, Nat.reduceAdd, Nat.reduceMul, Nat.reduceEqDiff, Nat.reduceLeDiff, Nat.reduceLT, Nat.reduceBEq, reduceCtorEq, reduceIte, c3, c4, c5, c6]
    · obtain rfl := Option.some.inj h
      try simp only [go_sem, Int.reduceLT, Int.reduceLE, Int.reduceBEq, Int.reduceBNe, Nat.reduceBNe, Nat.reduceAdd, Nat.reduceMul, Nat.reduceEqDiff, Nat.reduceLeDiff, Nat.reduceLT, Nat.reduceBEq, reduceCtorEq, reduceIte, c3, c4]
  · try simp only [go_sem, Int.reduceLT, Int.reduceLE, Int.reduceBEq, Int.reduceBNe, Nat.reduceBNe, Nat.reduceAdd, Nat.reduceMul, Nat.reduceEqDiff, Nat.reduceLeDiff, Nat.reduceLT, Nat.reduceBEq, reduceCtorEq, reduceIte, c3]
    refine ite_K h (fun c7 h => ?_) (fun c7 h => ?_)
    · obtain rfl := Option.some.inj h
      try simp only [go_sem, Int.reduceLT, Int.reduceLE, Int.reduceBEq, Int.reduceBNe, Nat.reduceBNe, Nat.reduceAdd, Nat.reduceMul, Nat.reduceEqDiff, Nat.reduceLeDiff, Nat.reduceLT, Nat.reduceBEq, reduceCtorEq, reduceIte, c3, c7]
    · try simp only [go_sem, Int.reduceLT, Int.reduceLE, Int.reduceBEq, Int.reduceBNe, Nat.reduceBNe, Nat.reduceAdd, Nat.reduceMul, Nat.reduceEqDiff, Nat.reduceLeDiff, Nat.reduceLT, Nat.reduceBEq, reduceCtorEq, reduceIte, c3, c7]
      obtain ⟨v3, e8, h⟩ := bind_K h
      refine call_K (by first | exact s_l1Cmp_ok e8 | simpa only [go_sem, Int.reduceLT, Int.reduceLE, Int.reduceBEq, Int.reduceBNe, Nat.reduceBNe, Nat.reduceAdd, Nat.reduceMul, Nat.reduceEqDiff, Nat.reduceLeDiff, Nat.reduceLT, Nat.reduceBEq, reduceCtorEq, reduceIte, c3, c7] using s_l1Cmp_ok e8) ?_
      obtain rfl := Option.some.inj h
      try simp only [go_sem, Int.reduceLT, Int.reduceLE, Int.reduceBEq, Int.reduceBNe, Nat.reduceBNe, Nat.reduceAdd, Nat.reduceMul, Nat.reduceEqDiff, Nat.reduceLeDiff, Nat.reduceLT, Nat.reduceBEq, reduceCtorEq, reduceIte, c3, c7]
theorem i_FindFact_ok {l_0 : (List FactD)} {f_1 : FactD} {r : Int} (h : i_FindFact l_0 f_1 = some r) : Sound Tryd.prog J0 53 [(false, [.sl 37 2 (List.map eFact l_0)]), (true, eFact f_1)] [(false, [(false, .int .i64 r)])] := by
  refine fnk Tryd.func53 (by kernel_rfl) rfl (by kernel_rfl) (by kernel_rfl) ?_
  unfold i_FindFact at h
  simp only [fnS, f53, argSt, go_sem, Int.reduceLT, Int.reduceLE, Int.reduceBEq, Int.reduceBNe, Nat.reduceBNe, Nat.reduceAdd, Nat.reduceMul, Nat.reduceEqDiff, Nat.reduceLeDiff, Nat.reduceLT, Nat.reduceBEq, reduceCtorEq, reduceIte]
  refine swp_for h (fun i _ st => IV [(3, .bp 0 0), (7, .p false [.c (.sl 37 2 (List.map eFact l_0))]), (8, .p false [.c (.int .i64 ((l_0.length : Nat) : Int))]), (9, .p false [.c (.int .i64 ((i : Nat) : Int))])] [.box 37 [.c (.str f_1.rel), .c (.sl 9 1 (List.map eStr f_1.args))]] st) [] [0] (by decide) ?_ ?_ ?_
  · simp only [go_sem, Int.reduceLT, Int.reduceLE, Int.reduceBEq, Int.reduceBNe, Nat.reduceBNe, Nat.reduceAdd, Nat.reduceMul, Nat.reduceEqDiff, Nat.reduceLeDiff, Nat.reduceLT, Nat.reduceBEq, reduceCtorEq, reduceIte, IV, sts_cons, sts_nil, obs_cons, obs_nil]
  · rintro i6 x7 ⟨⟩ ⟨sl, ob, n⟩ y1 hx2 hI3 hW4 h hy1
    simp only [IV, sts_cons, sts_nil, obs_cons, obs_nil, and_true, true_and, Nat.reduceAdd, str_len] at hI3
    obtain ⟨⟨g5_3, g5_7, g5_8, g5_9⟩, og5_0, hn⟩ := hI3
    subst hn
    have hlhx2 := WF.slotL hW4 g5_7 (j := 0) rfl
    try simp only [go_sem, Int.reduceLT, Int.reduceLE, Int.reduceBEq, Int.reduceBNe, Nat.reduceBNe, Nat.reduceAdd, Nat.reduceMul, Nat.reduceEqDiff, Nat.reduceLeDiff, Nat.reduceLT, Nat.reduceBEq, reduceCtorEq, reduceIte, hx2, lt_t hx2, lt_p hx2, nat_in (lt_n hx2) hlhx2, g5_3, g5_7, g5_8, g5_9, og5_0]
    obtain ⟨v8, e6, h⟩ := bind_K h
    refine call_K (by first | exact i_sameFact_ok e6 | simpa only [go_sem, Int.reduceLT, Int.reduceLE, Int.reduceBEq, Int.reduceBNe, Nat.reduceBNe, Nat.reduceAdd, Nat.reduceMul, Nat.reduceEqDiff, Nat.reduceLeDiff, Nat.reduceLT, Nat.reduceBEq, reduceCtorEq, reduceIte, hx2, lt_t hx2, lt_p hx2, nat_in (lt_n hx2) hlhx2, g5_3, g5_7, g5_8, g5_9, og5_0] using i_sameFact_ok e6) ?_
    try simp only [go_sem, Int.reduceLT, Int.reduceLE, Int.reduceBEq, Int.reduceBNe, Nat.reduceBNe, Nat.reduceAdd, Nat.reduceMul, Nat.reduceEqDiff, Nat.reduceLeDiff, Nat.reduceLT, Nat.reduceBEq, reduceCtorEq, reduceIte, hx2, lt_t hx2, lt_p hx2, nat_in (lt_n hx2) hlhx2, g5_3, g5_7, g5_8, g5_9, og5_0]
    refine ite_K h (fun c7 h => ?_) (fun c7 h => ?_)
    · replace h := inr_K h hy1
      obtain rfl := Option.some.inj h
      try simp only [go_sem, Int.reduceLT, Int.reduceLE, Int.reduceBEq, Int.reduceBNe, Nat.reduceBNe, Nat.reduceAdd, Nat.reduceMul, Nat.reduceEqDiff, Nat.reduceLeDiff, Nat.reduceLT, Nat.reduceBEq, reduceCtorEq, reduceIte, hx2, lt_t hx2, lt_p hx2, nat_in (lt_n hx2) hlhx2, c7, g5_3, g5_7, g5_8, g5_9, og5_0]
    · try simp only [go_sem, Int.reduceLT, Int.reduceLE, Int.reduceBEq, Int.reduceBNe, Nat.reduceBNe, Nat.reduceAdd, Nat.reduceMul, Nat.reduceEqDiff, Nat.reduceLeDiff, Nat.reduceLT, Nat.reduceBEq, reduceCtorEq, reduceIte, hx2, lt_t hx2, lt_p hx2, nat_in (lt_n hx2) hlhx2, c7, g5_3, g5_7, g5_8, g5_9, og5_0]
      refine ⟨_, [], [0], (Option.some.inj h).symm, by decide, ?_⟩
      try simp only [go_sem, Int.reduceLT, Int.reduceLE, Int.reduceBEq, Int.reduceBNe, Nat.reduceBNe, Nat.reduceAdd, Nat.reduceMul, Nat.reduceEqDiff, Nat.reduceLeDiff, Nat.reduceLT, Nat.reduceBEq, reduceCtorEq, reduceIte, hx2, lt_t hx2, lt_p hx2, nat_in (lt_n hx2) hlhx2, c7, g5_3, g5_7, g5_8, g5_9, og5_0, IV, sts_cons, sts_nil, obs_cons, obs_nil]
  · rintro ⟨⟩ ⟨sl, ob, n⟩ hI8 hW9 h
    simp only [IV, sts_cons, sts_nil, obs_cons, obs_nil, and_true, true_and, Nat.reduceAdd, str_len] at hI8
    obtain ⟨⟨g10_3, g10_7, g10_8, g10_9⟩, og10_0, hn⟩ := hI8
    subst hn
    obtain rfl := Option.some.inj h
    try simp only [go_sem, Int.reduceLT, Int.reduceLE, Int.reduceBEq, Int.reduceBNe, Nat.reduceBNe, Nat.reduceAdd, Nat.reduceMul, Nat.reduceEqDiff, Nat.reduceLeDiff, Nat.reduceLT, Nat.reduceBEq, reduceCtorEq, reduceIte, lt_f (l_0.length), g10_3, g10_7, g10_8, g10_9, og10_0]
theorem i_CompareAtoms_ok {a_0 : ByteArray} {b_1 : ByteArray} {r : Int} (h : i_CompareAtoms a_0 b_1 = some r) : Sound Tryd.prog J0 94 [(false, [.str a_0]), (false, [.str b_1])] [(false, [(false, .int .i64 r)])] := by
  refine fnk Tryd.func94 (by kernel_rfl) rfl (by kernel_rfl) (by kernel_rfl) ?_
  unfold i_CompareAtoms at h
  simp only [fnS, f94, argSt, go_sem, Int.reduceLT, Int.reduceLE, Int.reduceBEq, Int.reduceBNe, Nat.reduceBNe, Nat.reduceAdd, Nat.reduceMul, Nat.reduceEqDiff, Nat.reduceLeDiff, Nat.reduceLT, Nat.reduceBEq, reduceCtorEq, reduceIte]
  obtain ⟨v1, e1, h⟩ := bind_K h
  refine call_K (by first | exact i_ParseInt_ok e1 | simpa only [go_sem, Int.reduceLT, Int.reduceLE, Int.reduceBEq, Int.reduceBNe, Nat.reduceBNe, Nat.reduceAdd, Nat.reduceMul, Nat.reduceEqDiff, Nat.reduceLeDiff, Nat.reduceLT, Nat.reduceBEq, reduceCtorEq, reduceIte] using i_ParseInt_ok e1) ?_
  try simp only [go_sem, Int.reduceLT, Int.reduceLE, Int.reduceBEq, Int.reduceBNe, Nat.reduceBNe, Nat.reduceAdd, Nat.reduceMul, Nat.reduceEqDiff, Nat.reduceLeDiff, Nat.reduceLT, Nat.reduceBEq, reduceCtorEq, reduceIte]
  obtain ⟨v2, e2, h⟩ := bind_K h
  refine call_K (by first | exact i_ParseInt_ok e2 | simpa only [go_sem, Int.reduceLT, Int.reduceLE, Int.reduceBEq, Int.reduceBNe, Nat.reduceBNe, Nat.reduceAdd, Nat.reduceMul, Nat.reduceEqDiff, Nat.reduceLeDiff, Nat.reduceLT, Nat.reduceBEq, reduceCtorEq, reduceIte] using i_ParseInt_ok e2) ?_
  try simp only [go_sem, Int.reduceLT, Int.reduceLE, Int.reduceBEq, Int.reduceBNe, Nat.reduceBNe, Nat.reduceAdd, Nat.reduceMul, Nat.reduceEqDiff, Nat.reduceLeDiff, Nat.reduceLT, Nat.reduceBEq, reduceCtorEq, reduceIte]
  refine ite_K h (fun c3 h => ?_) (fun c3 h => ?_)
  · try simp only [go_sem, Int.reduceLT, Int.reduceLE, Int.reduceBEq, Int.reduceBNe, Nat.reduceBNe, Nat.reduceAdd, Nat.reduceMul, Nat.reduceEqDiff, Nat.reduceLeDiff, Nat.reduceLT, Nat.reduceBEq, reduceCtorEq, reduceIte, c3]
    refine ite_K h (fun c4 h => ?_) (fun c4 h => ?_)
    · try simp only [go_sem, Int.reduceLT, Int.reduceLE, Int.reduceBEq, Int.reduceBNe, Nat.reduceBNe, Nat.reduceAdd, Nat.reduceMul, Nat.reduceEqDiff, Nat.reduceLeDiff, Nat.reduceLT, Nat.reduceBEq, reduceCtorEq, reduceIte, c3, c4]
      obtain ⟨v3, e5, h⟩ := bind_K h
      refine call_K (by first | exact i_compareInts_ok e5 | simpa only [go_sem, Int.reduceLT, Int.reduceLE, Int.reduceBEq, Int.reduceBNe, Nat.reduceBNe, Nat.reduceAdd, Nat.reduceMul, Nat.reduceEqDiff, Nat.reduceLeDiff, Nat.reduceLT, Nat.reduceBEq, reduceCtorEq, reduceIte, c3, c4] using i_compareInts_ok e5) ?_
      obtain rfl := Option.some.inj h
      try simp only [go_sem, Int.reduceLT, Int.reduceLE, Int.reduceBEq, Int.reduceBNe, Nat.reduceBNe, Nat.reduceAdd, Nat.reduceMul, Nat.reduceEqDiff, Nat.reduceLeDiff, Nat.reduceLT, Nat.reduceBEq, reduceCtorEq, reduceIte, c3, c4]
    · obtain rfl := Option.some.inj h
      try simp only [go_sem, Int.reduceLT, Int.reduceLE, Int.reduceBEq, Int.reduceBNe, Nat.reduceBNe, Nat.reduceAdd, Nat.reduceMul, Nat.reduceEqDiff, Nat.reduceLeDiff, Nat.reduceLT, Nat.reduceBEq, reduceCtorEq, reduceIte, c3, c4]
  · try simp only [go_sem, Int.reduceLT, Int.reduceLE, Int.reduceBEq, Int.reduceBNe, Nat.reduceBNe, Nat.reduceAdd, Nat.reduceMul, Nat.reduceEqDiff, Nat.reduceLeDiff, Nat.reduceLT, Nat.reduceBEq, reduceCtorEq, reduceIte, c3]
    refine ite_K h (fun c6 h => ?_) (fun c6 h => ?_)
    · obtain rfl := Option.some.inj h
      try simp only [go_sem, Int.reduceLT, Int.reduceLE, Int.reduceBEq, Int.reduceBNe, Nat.reduceBNe, Nat.reduceAdd, Nat.reduceMul, Nat.reduceEqDiff, Nat.reduceLeDiff, Nat.reduceLT, Nat.reduceBEq, reduceCtorEq, reduceIte, c3, c6]
    · try simp only [go_sem, Int.reduceLT, Int.reduceLE, Int.reduceBEq, Int.reduceBNe, Nat.reduceBNe, Nat.reduceAdd, Nat.reduceMul, Nat.reduceEqDiff, Nat.reduceLeDiff, Nat.reduceLT, Nat.reduceBEq, reduceCtorEq, reduceIte, c3, c6]
      obtain ⟨v4, e7, h⟩ := bind_K h
      refine call_K (by first | exact x_Compare_ok e7 | simpa only [go_sem, Int.reduceLT, Int.reduceLE, Int.reduceBEq, Int.reduceBNe, Nat.reduceBNe, Nat.reduceAdd, Nat.reduceMul, Nat.reduceEqDiff, Nat.reduceLeDiff, Nat.reduceLT, Nat.reduceBEq, reduceCtorEq, reduceIte, c3, c6] using x_Compare_ok e7) ?_
      obtain rfl := Option.some.inj h
      try simp only [go_sem, Int.reduceLT, Int.reduceLE, Int.reduceBEq, Int.reduceBNe, Nat.reduceBNe, Nat.reduceAdd, Nat.reduceMul, Nat.reduceEqDiff, Nat.reduceLeDiff, Nat.reduceLT, Nat.reduceBEq, reduceCtorEq, reduceIte, c3, c6]
end Go.Proofs.YtppjenkjopjeiaaDoor
