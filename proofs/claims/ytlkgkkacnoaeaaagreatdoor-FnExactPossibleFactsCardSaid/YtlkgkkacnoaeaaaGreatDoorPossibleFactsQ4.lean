/- Texts of this proof, joined: BAny, BSound, BFn, BTok, Laid, DT, Shelf, LCompare, SortH, SortS, LAtoi, LItoa, Ext, Dp0, Dp1, Dp2. What each holds is said at its theorems. -/
import Derived.Test.YtlkgkkacnoaeaaaGreatDoorPossibleFactsQ3
import Derived.Test.YtlkgkkacnoaeaaaGreatDoorPossibleFactsQ1
import Derived.Test.YtlkgkkacnoaeaaaGreatDoorPossibleFactsQ2
import GoSem.Claims
import Derived.Test.YtlkgkkacnoaeaaaGreatDoorProg
import Derived.Lib.LaidTab
import Derived.Lib.ItoaNum
import Derived.Shelf.Small.Strs
import Derived.Shelf.Strconv.Atoi
import Derived.Shelf.Strconv.Itoa0
import Derived.Shelf.Strconv.Itoa1
import Derived.Shelf.LaysM
import Derived.Shelf.Strconv.Itoa2
import Derived.Shelf.Strconv.Itoa3
import Derived.Shelf.Strconv.AtoiErrFast
import Derived.Shelf.Strconv.ParseIntEmpty
import Derived.Shelf.Strconv.AtoiFail
import Derived.Shelf.Strconv.Clone
import Derived.Shelf.Strconv.SyntaxError
import Derived.Shelf.LaysC
import Derived.Shelf.Strconv.ToError
import Derived.Shelf.Strconv.AtoiErr
import Derived.Shelf.Strconv.ErrVar
import Derived.Shelf.Sort.Plain
import Derived.Shelf.Slices.In.SortNone
import Derived.Shelf.Slices.In.SortNone2
import Derived.Lib.AtoiErrMem
import Derived.Lib.AppendIntMem
import Derived.Lib.ItoaLen
set_option linter.unusedSimpArgs false
set_option linter.unusedVariables false
namespace Go.Proofs.YtlkgkkacnoaeaaaGreatDoor
open Go.RowKit
section
variable {P : Program} {J : World → Prop} {JF : Nat → Prop} {W : Base} {U : Nat → Prop} {key : Nat} {st st' : St} {w w' : World} {a : Act} {tt : Nat → Option TI} {hds : FuncId → Nat} {Q : Exit → Act → World → Prop}
/-- a state that some frame and world bear out -/
def Real [NW] (W : Base) (N : Nat) (U : Nat → Prop) (st : St) : Prop := ∃ a w, Inv W U st a w ∧ a.tmps.size = N
theorem opR_real [NW] (htt : MOk P J JF W tt) {N : Nat} {all : List Oper} {o : Oper} {v : SV} {u : List (Nat × Ob)} (h : opR tt (SC P J JF hds) all key o st v u) (hR : Real W N U st) (hkey : ∀ k, key ≤ k → k < key + 16 → ¬ U k) (hd : ∀ t, o.dst = some t → t < N ∧ (W.hv = none ∨ t ≠ 0)) :
    Real W N (Uk U key) ((st.put o.dst v).app u) := by
  obtain ⟨a, w, hI, hN⟩ := hR
  have hd' : ∀ t, o.dst = some t → t < a.tmps.size ∧ (W.hv = none ∨ t ≠ 0) := fun t ht => hN ▸ hd t ht
  have und : v = .und ∧ u = [] → Real W N (Uk U key) ((st.put o.dst v).app u) := fun ⟨e1, e2⟩ => by
    subst e1 e2
    exact ⟨_, w, und_inv hI _ hd', by rw [put_tmps]; exact hN⟩
  have run : opRS tt (SC P J JF hds) key o st v u → Real W N (Uk U key) ((st.put o.dst v).app u) := fun h => by
    obtain ⟨⟨g, hH, hS⟩, hU, hdef, hh⟩ := hI
    have evals : ∀ (ts : List TypeId) (args : List Operand), All2 (SVR g w) (evs tt st ts args) (args.map a.eval) ∧ ∀ x ∈ evs tt st ts args, svU U x := fun ts args => by
      have he : args.map a.eval = (zipT ts args).map fun p => a.eval p.2 := by
        have := congrArg (List.map a.eval) (zipT_snd ts args)
        rw [← this, List.map_map]; rfl
      refine ⟨?_, fun x mx => ?_⟩
      · rw [he]
        exact All2.of_map _ _ fun p _ => (ev_ok htt.tt hS hU p.1 p.2).1
      · obtain ⟨p, _, rfl⟩ := List.mem_map.1 mx
        exact (ev_ok htt.tt hS hU p.1 p.2).2
    cases hc : goCall o.op with
    | some c =>
      simp only [opRS, hc] at h
      obtain ⟨_, hcall⟩ := callR_sound htt h hH hU hkey (evals c.2.1 c.2.2).1 (evals c.2.1 c.2.2).2
      obtain ⟨e, w', fr, ⟨rv, _, g', t1, t2, t3, t4, t5, t6⟩, _⟩ := hcall []
      exact ⟨_, _, put_inv hS hU hdef hh hd' t1 t2 t3 t4 t5 t6, by rw [put_tmps]; exact hN⟩
    | none =>
      simp only [opRS, hc] at h
      cases hd2 : dynCall o.op with
      | some c =>
        rw [hd2] at h
        simp only at h
        obtain ⟨fc, h1, _, h⟩ := h
        obtain ⟨cs, _, hcs⟩ := clo_vals h1 (hS c.1)
        obtain ⟨_, hcall⟩ := callR_sound htt h hH hU hkey ((evals c.2.1 c.2.2).1.append hcs) (fun x mx => by
          rcases List.mem_append.1 mx with m | m
          · exact (evals c.2.1 c.2.2).2 x m
          · obtain ⟨c, _, rfl⟩ := List.mem_map.1 m
            exact svU_c _)
        obtain ⟨e, w', fr, ⟨rv, _, g', t1, t2, t3, t4, t5, t6⟩, _⟩ := hcall []
        exact ⟨_, _, put_inv hS hU hdef hh hd' t1 t2 t3 t4 t5 t6, by rw [put_tmps]; exact hN⟩
      | none =>
        rw [hd2] at h
        simp only at h
        obtain ⟨g', cv, w', _, t1, t2, t3, t4, t5, t6⟩ := opE_sound (P := P) (W := W) (a := a) htt.tt o h hH hS hU (hkey key (Nat.le_refl _) (by omega))
        exact ⟨_, _, put_inv hS hU hdef hh hd' t1 t2 t3 t4 t5 t6, by rw [put_tmps]; exact hN⟩
  unfold opR at h
  split at h
  · exact run h
  · exact und h
  · unfold gK at h
    split at h
    · split at h
      · exact run h
      · exact und h
    · split at h
      · exact und h
      · exact h.elim
/-- operations by their numbers -/
def opsI (tt : Nat → Option TI) (S : Ctx) (all : List Oper) (base : Nat) : List Nat → (St → Prop) → St → Prop
  | [], K, st => K st
  | i :: r, K, st => match all[i]? with
    | some o => opG tt S all (base + 16 * i) o (opsI tt S all base r K) st
    | none => opsI tt S all base r K st
theorem opsI_cons {S : Ctx} {all : List Oper} {base i : Nat} {r : List Nat} {K : St → Prop} {o : Oper} (ho : all[i]? = some o) : opsI tt S all base (i :: r) K st = opG tt S all (base + 16 * i) o (opsI tt S all base r K) st := by simp only [opsI, ho]
theorem opsI_of [NW] {S : Ctx} {all : List Oper} {base : Nat} {K : St → Prop} : ∀ (r : List Oper) (i : Nat) (st : St), all.drop i = r → opsS tt S all (base + 16 * i) r K st → opsI tt S all base (List.range' i r.length) K st
  | [], _, _, _, h => h
  | o :: r, i, st, hr, h => by
    have hi : all[i]? = some o := by
      have := congrArg (fun l => l[0]?) hr
      simpa using this
    have hr' : all.drop (i + 1) = r := by
      have := congrArg List.tail hr
      simpa using this
    rw [List.length_cons, List.range'_succ, opsI_cons hi]
    obtain ⟨v, u, h1, h2⟩ := opG_iff.1 h
    refine opG_iff.2 ⟨v, u, h1, opsI_of r (i + 1) _ hr' ?_⟩
    rw [show base + 16 * (i + 1) = base + 16 * i + 16 by omega]
    exact h2
/-- an operation that may change places with those before it is taken first -/
theorem front [NW] (htt : MOk P J JF W tt) {ops : Array Oper} {N base i : Nat} {o : Oper} (ho : ops.toList[i]? = some o) (hN : ∀ o ∈ ops.toList, ∀ t, o.dst = some t → t < N ∧ (W.hv = none ∨ t ≠ 0)) {K : St → Prop} {R2 : List Nat} : ∀ (R1 : List Nat) (U : Nat → Prop) (st : St), (R1 ++ i :: R2).Nodup →
    (∀ j ∈ R1, ∃ oj, ops.toList[j]? = some oj ∧ oj.apart ops o = true ∧ clsOk tt hds oj.op o.op = true) → (∀ j ∈ R1 ++ i :: R2, ∀ k, base + 16 * j ≤ k → k < base + 16 * j + 16 → ¬ U k) → Real W N U st →
    opsI tt (SC P J JF hds) ops.toList base (R1 ++ i :: R2) K st → opG tt (SC P J JF hds) ops.toList (base + 16 * i) o (opsI tt (SC P J JF hds) ops.toList base (R1 ++ R2) K) st
  | [], U, st, _, _, _, _, h => by rw [List.nil_append, opsI_cons ho] at h; exact h
  | j :: R1, U, st, hnd, hcomp, hk, hR, h => by
    obtain ⟨oj, hj, hap, hcl⟩ := hcomp j (by simp)
    rw [List.cons_append, opsI_cons hj] at h
    obtain ⟨vj, uj, h1, h2⟩ := opG_iff.1 h
    have hkj := hk j (by simp)
    have hki := hk i (by simp)
    rw [List.cons_append, List.nodup_cons] at hnd
    have hij : i ≠ j := fun e => hnd.1 (by simp [e])
    have hR1 := opR_real htt h1 hR hkj (hN oj (List.mem_of_getElem? hj))
    have h3 := front htt ho hN R1 (Uk U (base + 16 * j)) _ hnd.2 (fun q mq => hcomp q (by simp [mq])) (fun q mq k a b hU => by
      rcases hU with hU | ⟨c, d⟩
      · exact hk q (by simp; simp at mq; exact .inr mq) k a b hU
      · have : q = j := by omega
        subst this
        exact hnd.1 mq) hR1 h2
    obtain ⟨vi, ui, h4, h5⟩ := opG_iff.1 h3
    obtain ⟨_, _, hIn, _⟩ := hR
    obtain ⟨c1, c2, c3⟩ := comm hap hcl hIn.wf hkj hki (by omega) h1 h4
    refine opG_iff.2 ⟨vi, ui, c1, ?_⟩
    rw [List.cons_append, opsI_cons hj]
    exact opG_iff.2 ⟨vj, uj, c2, c3 ▸ h5⟩
/-- the operations ahead of one, by the edges -/
def anc (ops : Array Oper) : Nat → Nat → List Nat
  | 0, _ => []
  | n + 1, j => match ops[j]? with
    | some o => (o.after.toList.filter (Region.binds .any)).flatMap fun e => e.on :: anc ops n e.on
    | none => []
def drawOk (tt : Nat → Option TI) (hds : FuncId → Nat) (ops : Array Oper) : Bool :=
  (List.range ops.size).all fun j => match ops[j]? with
    | some oj => (oj.after.toList.all fun e => !Region.binds .any e || Nat.blt e.on j) &&
      (List.range j).all fun i => (anc ops ops.size j).contains i || match ops[i]? with
        | some oi => oi.apart ops oj && clsOk tt hds oi.op oj.op
        | none => true
    | none => true
theorem anc_listed {ops : Array Oper} {listed : Array Bool} (hcl : ∀ i o, ops[i]? = some o → listed.getD i false = true → ∀ e ∈ o.after, Region.binds .any e = true → listed.getD e.on false = true) :
    ∀ (n j : Nat) (o : Oper), ops[j]? = some o → (∀ e ∈ o.after, Region.binds .any e = true → listed.getD e.on false = true) → ∀ i ∈ anc ops n j, listed.getD i false = true
  | 0, j, o, _, _, i, mi => by simp [anc] at mi
  | n + 1, j, o, ho, he, i, mi => by
    simp only [anc, ho, List.mem_flatMap, List.mem_filter] at mi
    obtain ⟨e, ⟨me, hb⟩, mi⟩ := mi
    have hl := he e (by simpa using me) hb
    rcases List.mem_cons.1 mi with rfl | mi
    · exact hl
    · cases ho' : ops[e.on]? with
      | none => cases n <;> simp [anc, ho'] at mi
      | some o' => exact anc_listed hcl n e.on o' ho' (fun e' me' hb' => hcl e.on o' ho' hl e' me' hb') i mi
theorem any_sound [NW] (htt : MOk P J JF W tt) {ops : Array Oper} {N base : Nat} (hN : ∀ o ∈ ops.toList, ∀ t, o.dst = some t → t < N ∧ (W.hv = none ∨ t ≠ 0)) (hok : drawOk tt hds ops = true) {K : St → Prop}
    (hQ : ∀ U' st' a' w', Inv W U' st' a' w' → (∀ k, base + 16 * ops.size ≤ k → ¬ U' k) → a'.tmps.size = N → K st' → Q .normal a' w') :
    ∀ (fuel : Nat) (R : List Nat) (listed : Array Bool) (U : Nat → Prop) (st : St) (a : Act) (w : World), R.length ≤ fuel → R.Pairwise (· < ·) → listed.size = ops.size → (∀ i, i ∈ R ↔ (i < ops.size ∧ listed.getD i true = false)) →
      (∀ i o, ops[i]? = some o → listed.getD i false = true → ∀ e ∈ o.after, Region.binds .any e = true → listed.getD e.on false = true) →
      opsI tt (SC P J JF hds) ops.toList base R K st → Inv W U st a w → (∀ j ∈ R, ∀ k, base + 16 * j ≤ k → k < base + 16 * j + 16 → ¬ U k) → (∀ k, base + 16 * ops.size ≤ k → ¬ U k) → a.tmps.size = N → wpAny P .any ops Q fuel listed a w := by
  have hall : ∀ j oj, ops[j]? = some oj → (∀ e ∈ oj.after, Region.binds .any e = true → e.on < j) ∧ ∀ i oi, i < j → ops[i]? = some oi → i ∉ anc ops ops.size j → oi.apart ops oj = true ∧ clsOk tt hds oi.op oj.op = true := fun j oj hj => by
    have hjn : j < ops.size := (Array.getElem?_eq_some_iff.1 hj).1
    have h1 := List.all_eq_true.1 hok j (by simpa using hjn)
    simp only [hj, Bool.and_eq_true, List.all_eq_true] at h1
    refine ⟨fun e me hb => ?_, fun i oi hij hi hn => ?_⟩
    · have := h1.1 e (by simpa using me)
      simp only [hb, Bool.not_true, Bool.false_or] at this
      exact Nat.le_of_ble_eq_true this
    · have := h1.2 i (by simpa using hij)
      simp only [hi, Bool.or_eq_true, Bool.and_eq_true] at this
      rcases this with this | this
      · exact absurd (by simpa using this) hn
      · exact this
  intro fuel
  induction fuel with
  | zero =>
    intro R listed U st a w hlen _ hsz hmem _ h hI _ hU hs
    have hR : R = [] := List.eq_nil_of_length_eq_zero (by omega)
    subst hR
    refine ⟨?_, hQ U st a w hI hU hs h⟩
    rw [List.eq_nil_iff_forall_not_mem]
    intro i mi
    obtain ⟨h1, o, h2, _⟩ := mem_ready.1 mi
    exact absurd ((hmem i).2 ⟨(Array.getElem?_eq_some_iff.1 h2).1, h1⟩) (by simp)
  | succ fuel ih =>
    intro R listed U st a w hlen hso hsz hmem hcl h hI hk hU hs
    refine ⟨fun hr => ?_, fun i mi => ?_⟩
    · cases R with
      | nil => exact hQ U st a w hI hU hs h
      | cons r0 R =>
        exfalso
        obtain ⟨m1, m2⟩ := (hmem r0).1 (by simp)
        have : r0 ∈ Region.ready .any ops listed := mem_ready.2 ⟨m2, ops[r0], by simp [m1], fun e me hb => by
          have hlt := (hall r0 ops[r0] (by simp [m1])).1 e me hb
          by_cases hl : listed.getD e.on true = false
          · have mR := (hmem e.on).2 ⟨by omega, hl⟩
            rcases List.mem_cons.1 mR with e1 | mR
            · omega
            · have := (List.pairwise_cons.1 hso).1 _ mR; omega
          · have hlt2 : e.on < listed.size := by omega
            simp only [Array.getD_eq_getD_getElem?, hlt2, getElem?_pos, Option.getD_some, Bool.not_eq_false] at hl ⊢
            exact hl⟩
        rw [hr] at this
        simp at this
    · obtain ⟨i1, o, i2, i3⟩ := mem_ready.1 mi
      have hin : i < ops.size := (Array.getElem?_eq_some_iff.1 i2).1
      have miR : i ∈ R := (hmem i).2 ⟨hin, i1⟩
      obtain ⟨R1, R2, rfl⟩ := List.append_of_mem miR
      have hnd : (R1 ++ i :: R2).Nodup := hso.imp fun h => Nat.ne_of_lt h
      have ho : ops.toList[i]? = some o := by simpa using i2
      have hanc := anc_listed hcl ops.size i o i2 i3
      have hcomp : ∀ j ∈ R1, ∃ oj, ops.toList[j]? = some oj ∧ oj.apart ops o = true ∧ clsOk tt hds oj.op o.op = true := fun j mj => by
        obtain ⟨j1, j2⟩ := (hmem j).1 (by simp [mj])
        have hji : j < i := (List.pairwise_append.1 hso).2.2 j mj i (by simp)
        have hj : ops[j]? = some ops[j] := by simp [j1]
        refine ⟨ops[j], by simp [j1], (hall i o i2).2 j _ hji hj fun ma => ?_⟩
        have := hanc j ma
        have hlt : j < listed.size := by omega
        simp only [Array.getD_eq_getD_getElem?, hlt, getElem?_pos, Option.getD_some] at this j2
        rw [this] at j2; simp at j2
      have hfr := front htt ho hN R1 U st hnd hcomp hk ⟨a, w, hI, hs⟩ h
      refine wpOp_mono ?_ (opG_sound htt i2 hfr hI (hk i (by simp)) (fun t ht => by rw [hs]; exact hN o (List.mem_of_getElem? ho) t ht))
      rintro a' w' ⟨st', hI', hs', hK'⟩
      have hset : ∀ q, (listed.setIfInBounds i true).getD q true = if q = i then true else listed.getD q true := fun q => by
        by_cases e : q = i
        · subst e; simp [Array.getD_eq_getD_getElem?, Array.getElem?_setIfInBounds, hsz, hin]
        · simp [Array.getD_eq_getD_getElem?, Array.getElem?_setIfInBounds_ne (fun e' : i = q => e e'.symm), e]
      have hset' : ∀ q, (listed.setIfInBounds i true).getD q false = if q = i then true else listed.getD q false := fun q => by
        by_cases e : q = i
        · subst e; simp [Array.getD_eq_getD_getElem?, Array.getElem?_setIfInBounds, hsz, hin]
        · simp [Array.getD_eq_getD_getElem?, Array.getElem?_setIfInBounds_ne (fun e' : i = q => e e'.symm), e]
      have hnotin : i ∉ R1 ++ R2 := by
        rw [List.nodup_append] at hnd
        intro m
        rcases List.mem_append.1 m with m | m
        · exact hnd.2.2 i m i (by simp) rfl
        · exact (List.nodup_cons.1 hnd.2.1).1 m
      refine ih (R1 ++ R2) _ (Uk U (base + 16 * i)) st' a' w' (by simp at hlen ⊢; omega) (hso.sublist (List.Sublist.append (List.Sublist.refl _) (List.sublist_cons_self i R2))) (by simp [hsz]) (fun q => ?_) (fun q oq hq hl e me hb => ?_) hK' hI' (fun q mq k c d hU' => ?_) (fun k hk' hU' => ?_) (by omega)
      · rw [hset q]
        by_cases e : q = i
        · subst e; simp only [if_true, Bool.true_eq_false, and_false, iff_false]; exact hnotin
        · rw [if_neg e, ← hmem q]; simp [e]
      · rw [hset'] at hl ⊢
        by_cases e1 : e.on = i
        · simp [e1]
        · rw [if_neg e1]
          by_cases e2 : q = i
          · subst e2
            rw [i2] at hq
            simp only [Option.some.injEq] at hq
            subst hq
            exact i3 e me hb
          · rw [if_neg e2] at hl
            exact hcl q oq hq hl e me hb
      · have mq' : q ∈ R1 ++ i :: R2 := by simp at mq ⊢; rcases mq with mq | mq <;> simp [mq]
        rcases hU' with hU' | ⟨c', d'⟩
        · exact hk q mq' k c d hU'
        · have : q = i := by omega
          subst this
          exact hnotin mq
      · rcases hU' with hU' | ⟨c', d'⟩
        · exact hU k hk' hU'
        · omega
end
end Go.Proofs.YtlkgkkacnoaeaaaGreatDoor

namespace Go.Proofs.YtlkgkkacnoaeaaaGreatDoor
open Go.RowKit
theorem kidx_ok : ∀ {ρ : List Nat} {k i j : Nat}, kidx ρ k i = some j → i ≤ j ∧ ρ[j - i]? = some k
  | [], _, _, _, h => by simp [kidx] at h
  | x :: r, k, i, j, h => by
    simp only [kidx] at h
    split at h
    · rename_i e
      simp only [Option.some.injEq] at h
      subst h e
      exact ⟨Nat.le_refl _, by simp⟩
    · obtain ⟨h1, h2⟩ := kidx_ok h
      refine ⟨by omega, ?_⟩
      rw [show j - i = (j - (i + 1)) + 1 by omega]
      simpa using h2
theorem kidx_zero [NW] {ρ : List Nat} {k j : Nat} (h : kidx ρ k 0 = some j) : ρ[j]? = some k := by simpa using (kidx_ok h).2
theorem nodup_inj {α : Type} : ∀ {l : List α}, l.Nodup → ∀ {i j : Nat} (hi : i < l.length) (hj : j < l.length), l[i] = l[j] → i = j
  | [], _, _, _, hi, _, _ => by simp at hi
  | x :: l, h, 0, 0, _, _, _ => rfl
  | x :: l, h, 0, j + 1, _, hj, e => by
    rw [List.nodup_cons] at h
    exact absurd (by simp at e; rw [e]; exact List.getElem_mem _) h.1
  | x :: l, h, i + 1, 0, hi, _, e => by
    rw [List.nodup_cons] at h
    exact absurd (by simp at e; rw [← e]; exact List.getElem_mem _) h.1
  | x :: l, h, i + 1, j + 1, hi, hj, e => by
    rw [List.nodup_cons] at h
    have := nodup_inj h.2 (i := i) (j := j) (by simpa using hi) (by simpa using hj) (by simpa using e)
    omega
section
variable {P : Program} {J : World → Prop} {JF : Nat → Prop} {W : Base} {U : Nat → Prop} {st st' : St} {w w' : World} {a : Act} {tt : Nat → Option TI} {S : Ctx}
theorem rAV_ok [NW] {g g' : Gh} {ρ : List Nat} (hv : ∀ j k, ρ[j]? = some k → g'.val j = g.val k) (ho : ∀ b, g'.own b → g.own b) {x : AV} {v : Value} (h : AVR g w x v) : AVR g' w (rAV ρ x) v := by
  cases x with
  | c x => obtain ⟨L, h1, h2⟩ := h; exact ⟨L, h1, fun b m o => h2 b m (ho b o)⟩
  | n x => exact NR.move h (fun _ _ _ => rfl) fun b hb => .inl (ho b hb)
  | row k =>
    simp only [rAV]
    split
    · rename_i j hj
      exact ⟨by rw [hv j k (kidx_zero hj)]; exact h.1, h.2⟩
    · exact h.2
  | nil e m => exact h
  | dead => exact h
theorem All2.map_left {α β γ : Type} {R : α → γ → Prop} {R' : β → γ → Prop} (f : α → β) (h : ∀ a c, R a c → R' (f a) c) : ∀ {l : List α} {r : List γ}, All2 R l r → All2 R' (l.map f) r
  | [], [], _ => trivial
  | _ :: _, _ :: _, hh => ⟨h _ _ hh.1, hh.2.map_left f h⟩
  | [], _ :: _, h => h.elim
  | _ :: _, [], h => h.elim
theorem rAV_U [NW] (ρ : List Nat) (x : AV) : avU (fun j => j < ρ.length) (rAV ρ x) := by
  cases x with
  | row k =>
    simp only [rAV]
    split
    · rename_i j hj
      exact (List.getElem?_eq_some_iff.1 (kidx_zero hj)).1
    · trivial
  | _ => trivial
theorem ren_inv [NW] (hI : Inv W U st a w) {ρ : List Nat} (hρ : ρ.Nodup) : Inv W (fun j => j < ρ.length) (st.ren ρ) a w := by
  obtain ⟨⟨g, hH, hS⟩, hU, hdef, hh⟩ := hI
  let g' : Gh := ⟨fun j => match ρ[j]? with | some k => g.val k | none => undef, fun j => match ρ[j]? with | some k => g.O k | none => [], fun j => match ρ[j]? with | some k => g.D k | none => [], g.Z⟩
  have gs : ∀ j k, ρ[j]? = some k → g'.val j = g.val k ∧ g'.O j = g.O k ∧ g'.D j = g.D k := fun j k h => by simp [g', h]
  have gn : ∀ j, ρ[j]? = none → g'.O j = [] ∧ g'.D j = [] := fun j h => by simp [g', h]
  have ho : ∀ b, g'.own b → g.own b := fun b hb => by
    rcases hb with ⟨j, mj⟩ | hz
    · cases h : ρ[j]? with
      | none => rw [(gn j h).1] at mj; simp at mj
      | some k => rw [(gs j k h).2.1] at mj; exact .inl ⟨k, mj⟩
    · exact .inr hz
  have hAV : ∀ x v, AVR g w x v → AVR g' w (rAV ρ x) v := fun x v h => rAV_ok (fun j k hjk => (gs j k hjk).1) ho h
  have hAVs : ∀ xs vs, All2 (AVR g w) xs vs → All2 (AVR g' w) (xs.map (rAV ρ)) vs := fun xs vs h => h.map_left _ hAV
  have hPV : ∀ ag cs v, PVR g w ag cs v → PVR g' w ag (cs.map (rAV ρ)) v := fun ag cs v h => by
    cases ag with
    | true => obtain ⟨vs, h1, h2⟩ := h; exact ⟨vs, h1, hAVs _ _ h2⟩
    | false => obtain ⟨x, rfl, h2⟩ := h; exact ⟨_, rfl, hAV _ _ h2⟩
  refine ⟨⟨g', ⟨hH.below, fun j => ?_, fun j => ?_, fun j i hji b mb => ?_, fun j b mb => ?_, hH.gz, hH.zx, hH.nw⟩, fun t => ?_⟩, ⟨fun t => ?_, fun j => ?_, fun j hj => ?_⟩, hdef, hh⟩
  · show ObR g' w j (match ρ[j]? with | some k => rOb ρ (st.ob k) | none => .gone)
    cases h : ρ[j]? with
    | none => exact gn j h
    | some k =>
      obtain ⟨e1, e2, e3⟩ := gs j k h
      have hob := hH.obs k
      show ObR g' w j (rOb ρ (st.ob k))
      cases hok : st.ob k with
      | gone => rw [hok] at hob; exact ⟨e2.trans hob.1, e3.trans hob.2⟩
      | box t cs =>
        rw [hok] at hob
        obtain ⟨b, vs, h1, h2, h3, h4, h5⟩ := hob
        exact ⟨b, vs, e1.trans h1, e2.trans h2, e3.trans h3, h4, hAVs _ _ h5⟩
      | map kk vk kv =>
        rw [hok] at hob
        obtain ⟨b, es, c, h1, h2, h3, h4⟩ := hob
        exact ⟨b, es, c, e1.trans h1, e2.trans h2, e3.trans h3, h4⟩
      | row e m xs d =>
        rw [hok] at hob
        obtain ⟨hm, cs, L, h1, h2, h4⟩ := hob
        refine ⟨hm, cs, L, by rw [e1]; exact h1, h2, ?_⟩
        rw [e1, e2, e3]
        rcases h4 with h4 | ⟨hd, h3, h4, h5⟩ | ⟨hd, h3, h4, h5⟩
        · exact .inl h4
        · exact .inr (.inl ⟨hd, h3, h4, fun b mb o => h5 b mb (ho b o)⟩)
        · exact .inr (.inr ⟨hd, h3, h4, fun b mb o => h5 b mb (ho b o)⟩)
  · cases h : ρ[j]? with
    | none => rw [(gn j h).1, (gn j h).2]; simp
    | some k => rw [(gs j k h).2.1, (gs j k h).2.2]; exact hH.nodup k
  · cases h : ρ[j]? with
    | none => rw [(gn j h).1, (gn j h).2] at mb; simp at mb
    | some k =>
      rw [(gs j k h).2.1, (gs j k h).2.2] at mb
      cases h' : ρ[i]? with
      | none => rw [(gn i h').1, (gn i h').2]; simp
      | some q =>
        rw [(gs i q h').2.1, (gs i q h').2.2]
        refine hH.apart k q (fun e => hji ?_) b mb
        subst e
        obtain ⟨l1, e1⟩ := List.getElem?_eq_some_iff.1 h
        obtain ⟨l2, e2⟩ := List.getElem?_eq_some_iff.1 h'
        exact nodup_inj hρ l1 l2 (e1.trans e2.symm)
  · cases h : ρ[j]? with
    | none => rw [(gn j h).1, (gn j h).2] at mb; simp at mb
    | some k =>
      rw [(gs j k h).2.1, (gs j k h).2.2] at mb
      refine ⟨(hH.plain k b mb).1, (hH.plain k b mb).2.of ?_⟩
      show mapB (match ρ[j]? with | some k => rOb ρ (st.ob k) | none => .gone) = _
      rw [h]
      show mapB (rOb ρ (st.ob k)) = _
      cases st.ob k <;> rfl
  · have hs := hS t
    show SVR g' w (rSV ρ (st.sl t)) _
    cases hsl : st.sl t with
    | any => trivial
    | und => rw [hsl] at hs; exact hs
    | p ag cs => rw [hsl] at hs; exact hPV _ _ _ hs
    | tup xs =>
      rw [hsl] at hs
      obtain ⟨vs, h1, h2⟩ := hs
      exact ⟨vs, h1, h2.map_left (fun x : Bool × List AV => (x.1, x.2.map (rAV ρ))) fun x v h => hPV x.1 x.2 v h⟩
    | bp k off =>
      rw [hsl] at hs
      simp only [rSV]
      split
      · rename_i j hj
        obtain ⟨b, h1, h2⟩ := hs
        exact ⟨b, ((gs j k (kidx_zero hj)).1).trans h1, h2⟩
      · trivial
    | rp k m i off =>
      rw [hsl] at hs
      simp only [rSV]
      split
      · rename_i j hj
        obtain ⟨b, o, n, c, h1, h2⟩ := hs
        exact ⟨b, o, n, c, ((gs j k (kidx_zero hj)).1).trans h1, h2⟩
      · trivial
    | ep e off =>
      rw [hsl] at hs
      obtain ⟨b, lo, cs, L, h1, h2, h3, h4, h5⟩ := hs
      exact ⟨b, lo, cs, L, h1, h2, h3, fun x m o => h4 x m (ho x o), h5⟩
    | fn f => rw [hsl] at hs; exact hs
  · show svU _ (rSV ρ (st.sl t))
    cases st.sl t with
    | p ag cs => intro y my; obtain ⟨x, _, rfl⟩ := List.mem_map.1 my; exact rAV_U ρ x
    | tup xs =>
      intro y my
      obtain ⟨x, _, rfl⟩ := List.mem_map.1 my
      intro z mz
      obtain ⟨q, _, rfl⟩ := List.mem_map.1 mz
      exact rAV_U ρ q
    | bp k off =>
      simp only [rSV]
      split
      · rename_i j hj; exact (List.getElem?_eq_some_iff.1 (kidx_zero hj)).1
      · trivial
    | rp k m i off =>
      simp only [rSV]
      split
      · rename_i j hj; exact (List.getElem?_eq_some_iff.1 (kidx_zero hj)).1
      · trivial
    | _ => trivial
  · show obU _ (match ρ[j]? with | some k => rOb ρ (st.ob k) | none => .gone)
    split
    · rename_i k _
      cases st.ob k with
      | box t cs => intro y my; obtain ⟨x, _, rfl⟩ := List.mem_map.1 my; exact rAV_U ρ x
      | _ => trivial
    · trivial
  · show (match ρ[j]? with | some k => rOb ρ (st.ob k) | none => .gone) = .gone
    have : ρ[j]? = none := List.getElem?_eq_none (by omega)
    rw [this]
/-- a row is taken for less than it is -/
theorem low_one [NW] {g : Gh} {ob : Nat → Ob} (hI : HI W g ob w) {k e m d d' : Nat} {xs : List (List CT)} (hk : ob k = .row e m xs d) (hd : d' < d) : ∃ g1 : Gh, HI W g1 (upd ob k (.row e m xs d')) w ∧ g1.val = g.val ∧ ∀ b, g1.own b → g.own b := by
  by_cases h0 : d' = 0
  · obtain ⟨g1, h1, h2, h3, _⟩ := frz_one hI k
    rw [hk] at h1
    exact ⟨g1, by rw [h0]; exact h1, h2, h3⟩
  · have ho := hI.obs k
    rw [hk] at ho
    obtain ⟨hm, cs, L, o1, o2, o3⟩ := ho
    have h2 : d = 2 ∧ g.O k = (g.val k).ownBlock.toList ∧ g.D k = L := by
      rcases o3 with o3 | ⟨q, _⟩ | ⟨q, _⟩
      · exact o3
      · omega
      · omega
    obtain ⟨rfl, q1, q2⟩ := h2
    obtain rfl : d' = 1 := by omega
    let g1 : Gh := ⟨g.val, g.O, upd g.D k [], g.Z⟩
    have hown : ∀ b, g1.own b ↔ g.own b := fun b => Iff.rfl
    have hsub : ∀ j b, b ∈ g1.O j ++ g1.D j → b ∈ g.O j ++ g.D j := fun j b mb => by
      by_cases hj : j = k
      · subst hj; simp [g1, upd] at mb; simp [mb]
      · simpa [g1, upd, hj] using mb
    refine ⟨g1, ⟨hI.below, fun j => ?_, fun j => ?_, fun i j hij b mb mj => hI.apart i j hij b (hsub i b mb) (hsub j b mj), fun j b mb => ⟨(hI.plain j b (hsub j b mb)).1, (hI.plain j b (hsub j b mb)).2.of (by
      by_cases hj : j = k
      · subst hj; rw [upd_same, hk]; rfl
      · rw [upd_ne _ _ hj])⟩, hI.gz, hI.zx, hI.nw⟩, rfl, fun b hb => hb⟩
    · by_cases hj : j = k
      · subst hj
        rw [upd_same]
        refine ⟨hm, cs, L, o1, o2, .inr (.inl ⟨rfl, q1, by simp [g1, upd], fun b mb hb => ?_⟩)⟩
        have mk : b ∈ g.D j := by rw [q2]; exact mb
        rcases hb with ⟨i, mi⟩ | hz
        · by_cases hij : i = j
          · subst hij
            have := hI.nodup i
            rw [List.nodup_append] at this
            exact this.2.2 b mi b mk rfl
          · exact hI.apart i j hij b (by simp; exact .inl mi) (by simp [mk])
        · exact hI.nz (k := j) (b := b) (by simp [mk]) hz
      · rw [upd_ne _ _ hj]
        have hoj := hI.obs j
        cases hh : ob j with
        | gone => rw [hh] at hoj; exact ⟨hoj.1, by simpa [g1, upd, hj] using hoj.2⟩
        | box t ds =>
          rw [hh] at hoj
          obtain ⟨b, vs, h1, h2, h3, h4, h5⟩ := hoj
          exact ⟨b, vs, h1, h2, by simpa [g1, upd, hj] using h3, h4, h5.mono fun x u _ hx => AVR.less hx rfl fun b hb => hb⟩
        | map kk vk kv =>
          rw [hh] at hoj
          obtain ⟨b, es, c, h1, h2, h3, h4⟩ := hoj
          exact ⟨b, es, c, h1, h2, by simpa [g1, upd, hj] using h3, h4⟩
        | row e' m' xs' d2 =>
          rw [hh] at hoj
          obtain ⟨hm', cs', L', p1, p2, p3⟩ := hoj
          refine ⟨hm', cs', L', p1, p2, ?_⟩
          have e2 : g1.D j = g.D j := by simp [g1, upd, hj]
          rw [e2]
          exact p3
    · by_cases hj : j = k
      · subst hj
        have := hI.nodup j
        rw [List.nodup_append] at this
        simpa [g1, upd] using this.1
      · have := hI.nodup j
        simpa [g1, upd, hj] using this
theorem mat_inv [NW] (m : Bool × Nat × Nat) (hI : Inv W U st a w) (hk : ∀ k, st.n ≤ k → ¬ U k) : ∃ U', Inv W U' (st.mat m) a w ∧ ∀ k, (st.mat m).n ≤ k → ¬ U' k := by
  have same : ∃ U', Inv W U' st a w ∧ ∀ k, st.n ≤ k → ¬ U' k := ⟨U, hI, hk⟩
  have hk0 : ¬ U st.n := hk st.n (Nat.le_refl _)
  have hU'n : ∀ k, st.n + 1 ≤ k → ¬ (U k ∨ k = st.n) := fun k hk' h => by
    rcases h with h | h
    · exact hk k (by omega) h
    · omega
  -- the new row's part
  have new : ∀ (e q : Nat), 0 < q → ∀ g, HI W g st.ob w → ∃ g', HI W g' (upd st.ob st.n (.row e q [] 2)) w ∧ (∀ x u, svU U x → SVR g w x u → SVR g' w x u) ∧ g'.val st.n = .slice none 0 0 ∧ (∀ x u, avU U x → AVR g w x u → AVR g' w x u) := fun e q hq g hH => by
    obtain ⟨t1, t2⟩ := hH.turn (key := st.n) (U := U) (w' := w) (v := .slice none 0 0) (O := []) (D := []) (o := .row e q [] 2) hI.wf.ob hk0 [] (by simp) hH.below (Nat.le_refl _) (fun _ _ _ => rfl) (by simp) (by simp) (by simp) (by simp)
      (fun _ => ⟨hq, [], [], by simpa [Gh.turn, upd] using ownsV_nil _ _ _ _, ⟨rfl, rfl⟩, .inl ⟨rfl, by simp [Gh.turn, upd, Value.ownBlock], by simp [Gh.turn]⟩⟩)
    refine ⟨_, t1, t2, by simp [Gh.turn, upd], fun x u hx hu => hu.move hx (fun k hk' => upd_ne _ _ fun e => hk0 (e ▸ hk')) (fun _ _ _ => rfl) (fun b ho => ?_)⟩
    rcases turn_own ho with mo | ⟨k, _, _, mk⟩ | hz
    · simp at mo
    · exact .inl (.inl ⟨k, mk⟩)
    · exact .inl (.inr hz)
  have up : ∀ k, U k → (U k ∨ k = st.n) := fun _ h => .inl h
  obtain ⟨⟨g, hH, hS⟩, hU, hdef, hh⟩ := hI
  -- a row, as a tree
  have tree : ∀ k e q xs d, st.ob k = .row e q xs d → ∃ g1 : Gh, HI W g1 (upd st.ob k (.row e q xs 0)) w ∧ g1.val = g.val ∧ (∀ b, g1.own b → g.own b) ∧ U k ∧ ∀ v, AVR g w (.row k) v → AVR g1 w (.c (.sl e q xs)) v := fun k e q xs d hob => by
    obtain ⟨g1, i1, i2, i3, _⟩ := frz_one hH k
    rw [hob] at i1
    obtain ⟨L, t1, t2⟩ := frz_tree i1 (upd_same st.ob k (.row e q xs 0))
    exact ⟨g1, i1, i2, i3, Classical.byContradiction fun hn => by have := hU.gone _ hn; rw [hob] at this; simp at this, fun v hv => ⟨L, by rw [hv.1, ← i2]; exact t1, t2⟩⟩
  have sets : ∀ {gg : Gh} {cs : List AV} {vs : List Value} {j : Nat} {y : AV} {v : Value}, All2 (AVR gg w) cs vs → vs[j]? = some v → AVR gg w y v → All2 (AVR gg w) (cs.set j y) vs := fun {gg cs vs j y v} h1 h2 h3 => by
    have := h1.set (i := j) h3
    obtain ⟨hl, he⟩ := List.getElem?_eq_some_iff.1 h2
    rw [← he, List.set_getElem_self hl] at this
    exact this
  have pset : ∀ {gg : Gh} {ag : Bool} {cs : List AV} {v : Value} {j : Nat} {x y : AV}, PVR gg w ag cs v → cs[j]? = some x → (∀ u, AVR gg w x u → AVR gg w y u) → PVR gg w ag (cs.set j y) v := fun {gg ag cs v j x y} h1 h2 h3 => by
    cases ag with
    | true =>
      obtain ⟨vs, rfl, h4⟩ := h1
      obtain ⟨u, u1, u2⟩ := h4.at h2
      exact ⟨vs, rfl, sets h4 u1 (h3 u u2)⟩
    | false =>
      obtain ⟨z, rfl, h4⟩ := h1
      cases j with
      | zero => simp at h2; subst h2; exact ⟨y, rfl, h3 v h4⟩
      | succ j => simp at h2
  have uset : ∀ {V : Nat → Prop} {cs : List AV} {j : Nat} {y : AV}, avsU V cs → avU V y → avsU V (cs.set j y) := fun {V cs j y} h1 h2 z mz => by
    rcases List.mem_or_eq_of_mem_set mz with mz | mz
    · exact h1 z mz
    · subst mz; exact h2
  unfold St.mat
  split
  · split
    · rename_i ag cs hsl
      have hcu : avsU U cs := by have := hU.sl m.2.1; rw [hsl] at this; exact this
      have hs := hS m.2.1
      rw [hsl] at hs
      split
      · rename_i e q hcs
        split
        · rename_i hq
          obtain ⟨g', t1, t2, t3, t4⟩ := new e q hq g hH
          refine ⟨fun k => U k ∨ k = st.n, ⟨⟨g', t1, fun t => ?_⟩, ⟨fun t => ?_, fun k => ?_, fun k hk' => ?_⟩, hdef, hh⟩, hU'n⟩
          · show SVR g' w (upd st.sl m.2.1 (.p ag (cs.set m.2.2 (.row st.n))) t) _
            by_cases ht : t = m.2.1
            · subst ht
              rw [upd_same]
              have h1 : PVR g' w ag cs (a.tmps.getD m.2.1 undef) := t2 (.p ag cs) _ hcu hs
              refine pset h1 hcs fun u hu => ?_
              have hu' : u = .slice none 0 0 := hu
              rw [hu']
              exact ⟨t3.symm, rfl⟩
            · rw [upd_ne _ _ ht]; exact t2 _ _ (hU.sl t) (hS t)
          · show svU _ (upd st.sl m.2.1 (.p ag (cs.set m.2.2 (.row st.n))) t)
            by_cases ht : t = m.2.1
            · subst ht; rw [upd_same]; exact uset (hcu.mono up) (.inr rfl)
            · rw [upd_ne _ _ ht]; exact (hU.sl t).mono up
          · show obU _ (upd st.ob st.n _ k)
            by_cases hk' : k = st.n
            · subst hk'; rw [upd_same]; trivial
            · rw [upd_ne _ _ hk']; exact (hU.ob k).mono up
          · show upd st.ob st.n _ k = _
            rw [upd_ne _ _ fun e => hk' (.inr e)]; exact hU.gone k fun h => hk' (.inl h)
        · exact same
      · rename_i k hcs
        split
        · rename_i e q xs d hob
          obtain ⟨g1, i1, i2, i3, hUk, i4⟩ := tree k e q xs d hob
          refine ⟨U, ⟨⟨g1, i1, fun t => ?_⟩, ⟨fun t => ?_, fun j => ?_, fun j hj => ?_⟩, hdef, hh⟩, hk⟩
          · show SVR g1 w (upd st.sl m.2.1 (.p ag (cs.set m.2.2 (.c (.sl e q xs)))) t) _
            by_cases ht : t = m.2.1
            · subst ht
              rw [upd_same]
              have h1 : PVR g1 w ag cs (a.tmps.getD m.2.1 undef) := (show SVR g w (.p ag cs) _ from hs).less i2 i3
              exact pset h1 hcs fun u hu => i4 u ⟨hu.1.trans (by rw [i2]), hu.2⟩
            · rw [upd_ne _ _ ht]; exact (hS t).less i2 i3
          · show svU _ (upd st.sl m.2.1 (.p ag (cs.set m.2.2 (.c (.sl e q xs)))) t)
            by_cases ht : t = m.2.1
            · subst ht; rw [upd_same]; exact uset hcu trivial
            · rw [upd_ne _ _ ht]; exact hU.sl t
          · show obU U (upd st.ob k (.row e q xs 0) j)
            by_cases h1 : j = k
            · subst h1; rw [upd_same]; trivial
            · rw [upd_ne _ _ h1]; exact hU.ob j
          · show upd st.ob k (.row e q xs 0) j = _
            rw [upd_ne _ _ (show j ≠ k from fun e' => hj (e' ▸ hUk))]; exact hU.gone j hj
        · exact same
      · exact same
    · exact same
  · split
    · rename_i ty cs hob
      split
      · rename_i e q hcs
        split
        · rename_i hq
          obtain ⟨g', t1, t2, t3, t4⟩ := new e q hq g hH
          have hUk : U m.2.1 := Classical.byContradiction fun hn => by have := hU.gone _ hn; rw [hob] at this; simp at this
          have hne : m.2.1 ≠ st.n := fun e => hk0 (e ▸ hUk)
          have hcu : avsU U cs := by have := hU.ob m.2.1; rw [hob] at this; exact this
          have hbox := t1.obs m.2.1
          rw [upd_ne _ _ hne, hob] at hbox
          obtain ⟨b, vs, b1, b2, b3, b4, b5⟩ := hbox
          obtain ⟨u, u1, u2⟩ := b5.at hcs
          have u2' : u = .slice none 0 0 := u2
          have hvs : vs.set m.2.2 u = vs := by
            obtain ⟨hl, he⟩ := List.getElem?_eq_some_iff.1 u1
            rw [← he]; exact List.set_getElem_self hl
          have hbox' : ObR g' w m.2.1 (.box ty (cs.set m.2.2 (.row st.n))) := by
            refine ⟨b, vs, b1, b2, b3, b4, ?_⟩
            have := b5.set (i := m.2.2) (a := AV.row st.n) (b := u) ⟨by rw [u2', t3], by rw [u2']; rfl⟩
            rw [hvs] at this
            exact this
          have hob' : ∀ k, (upd (upd st.ob m.2.1 (.box ty (cs.set m.2.2 (.row st.n)))) st.n (.row e q [] 2)) k = if k = m.2.1 then .box ty (cs.set m.2.2 (.row st.n)) else (upd st.ob st.n (.row e q [] 2)) k := fun k => by
            by_cases h1 : k = st.n
            · have h2 : ¬ k = m.2.1 := fun e' => hne (e'.symm.trans h1)
              have h3 : ¬ st.n = m.2.1 := fun e' => hne e'.symm
              simp [upd, h1, h3]
            · by_cases h2 : k = m.2.1
              · simp [upd, h2, hne]
              · simp [upd, h1, h2]
          refine ⟨fun k => U k ∨ k = st.n, ⟨⟨g', ⟨t1.below, fun k => ?_, t1.nodup, t1.apart, fun k b mb => ⟨(t1.plain k b mb).1, (t1.plain k b mb).2.of (by
              show mapB ((upd (upd st.ob m.2.1 (.box ty (cs.set m.2.2 (.row st.n)))) st.n (.row e q [] 2)) k) = _
              rw [hob' k]
              split
              · rename_i h1; subst h1; rw [upd_ne _ _ hne, hob]; rfl
              · rfl)⟩, t1.gz, t1.zx, t1.nw⟩, fun t => t2 _ _ (hU.sl t) (hS t)⟩, ⟨fun t => (hU.sl t).mono up, fun k => ?_, fun k hk' => ?_⟩, hdef, hh⟩, hU'n⟩
          · show ObR g' w k ((upd (upd st.ob m.2.1 (.box ty (cs.set m.2.2 (.row st.n)))) st.n (.row e q [] 2)) k)
            rw [hob' k]
            split
            · rename_i h1; subst h1; exact hbox'
            · exact t1.obs k
          · show obU _ ((upd (upd st.ob m.2.1 (.box ty (cs.set m.2.2 (.row st.n)))) st.n (.row e q [] 2)) k)
            rw [hob' k]
            split
            · intro y my
              rcases List.mem_or_eq_of_mem_set my with my | my
              · exact (hcu y my).mono up
              · subst my; exact .inr rfl
            · by_cases h1 : k = st.n
              · subst h1; rw [upd_same]; trivial
              · rw [upd_ne _ _ h1]; exact (hU.ob k).mono up
          · show (upd (upd st.ob m.2.1 (.box ty (cs.set m.2.2 (.row st.n)))) st.n (.row e q [] 2)) k = _
            rw [hob' k, if_neg (show ¬ k = m.2.1 from fun e' => hk' (.inl (e' ▸ hUk))), upd_ne _ _ (show k ≠ st.n from fun e' => hk' (.inr e'))]
            exact hU.gone k fun h => hk' (.inl h)
        · exact same
      · rename_i k hcs
        split
        · rename_i e q xs d hob2
          obtain ⟨g1, i1, i2, i3, hUk, i4⟩ := tree k e q xs d hob2
          have hUm : U m.2.1 := Classical.byContradiction fun hn => by have := hU.gone _ hn; rw [hob] at this; simp at this
          have hne : k ≠ m.2.1 := fun e' => by rw [e', hob] at hob2; simp at hob2
          have hcu : avsU U cs := by have := hU.ob m.2.1; rw [hob] at this; exact this
          have hbox := i1.obs m.2.1
          rw [upd_ne _ _ (fun e' => hne e'.symm), hob] at hbox
          obtain ⟨b, vs, b1, b2, b3, b4, b5⟩ := hbox
          obtain ⟨u, u1, u2⟩ := b5.at hcs
          have hbox' : ObR g1 w m.2.1 (.box ty (cs.set m.2.2 (.c (.sl e q xs)))) := ⟨b, vs, b1, b2, b3, b4, sets b5 u1 (i4 u ⟨u2.1.trans (by rw [i2]), u2.2⟩)⟩
          refine ⟨U, ⟨⟨g1, ⟨i1.below, fun j => ?_, i1.nodup, i1.apart, fun j b mb => ⟨(i1.plain j b mb).1, (i1.plain j b mb).2.of (by
              show mapB (upd (upd st.ob k (.row e q xs 0)) m.2.1 (.box ty (cs.set m.2.2 (.c (.sl e q xs)))) j) = _
              by_cases h1 : j = m.2.1
              · subst h1; rw [upd_same, upd_ne _ _ (fun e' => hne e'.symm), hob]; rfl
              · rw [upd_ne _ _ h1])⟩, i1.gz, i1.zx, i1.nw⟩, fun t => (hS t).less i2 i3⟩, ⟨hU.sl, fun j => ?_, fun j hj => ?_⟩, hdef, hh⟩, hk⟩
          · show ObR g1 w j (upd (upd st.ob k (.row e q xs 0)) m.2.1 (.box ty (cs.set m.2.2 (.c (.sl e q xs)))) j)
            by_cases h1 : j = m.2.1
            · subst h1; rw [upd_same]; exact hbox'
            · rw [upd_ne _ _ h1]; exact i1.obs j
          · show obU U (upd (upd st.ob k (.row e q xs 0)) m.2.1 (.box ty (cs.set m.2.2 (.c (.sl e q xs)))) j)
            by_cases h1 : j = m.2.1
            · subst h1; rw [upd_same]; exact uset hcu trivial
            · rw [upd_ne _ _ h1]
              by_cases h2 : j = k
              · subst h2; rw [upd_same]; trivial
              · rw [upd_ne _ _ h2]; exact hU.ob j
          · show upd (upd st.ob k (.row e q xs 0)) m.2.1 (.box ty (cs.set m.2.2 (.c (.sl e q xs)))) j = _
            rw [upd_ne _ _ (show j ≠ m.2.1 from fun e' => hj (e' ▸ hUm)), upd_ne _ _ (show j ≠ k from fun e' => hj (e' ▸ hUk))]; exact hU.gone j hj
        · exact same
      · exact same
    · rename_i e q xs d hob
      split
      · rename_i hlt
        have hUk : U m.2.1 := Classical.byContradiction fun hn => by have := hU.gone _ hn; rw [hob] at this; simp at this
        obtain ⟨g1, t1, t2, t3⟩ := low_one hH hob hlt
        refine ⟨U, ⟨⟨g1, t1, fun t => (hS t).less t2 t3⟩, ⟨hU.sl, fun k => ?_, fun k hk' => ?_⟩, hdef, hh⟩, hk⟩
        · show obU U (upd st.ob m.2.1 (.row e q xs m.2.2) k)
          by_cases h1 : k = m.2.1
          · subst h1; rw [upd_same]; trivial
          · rw [upd_ne _ _ h1]; exact hU.ob k
        · show upd st.ob m.2.1 (.row e q xs m.2.2) k = _
          rw [upd_ne _ _ (show k ≠ m.2.1 from fun e' => hk' (e' ▸ hUk))]; exact hU.gone k hk'
      · exact same
    · exact same
theorem matN_inv [NW] (m : Bool × Nat × Nat) (hI : Inv W U st a w) (hk : ∀ k, st.n ≤ k → ¬ U k) : ∃ U', Inv W U' (st.matN m) a w ∧ ∀ k, (st.matN m).n ≤ k → ¬ U' k := by
  have same : ∃ U', Inv W U' st a w ∧ ∀ k, st.n ≤ k → ¬ U' k := ⟨U, hI, hk⟩
  obtain ⟨⟨g, hH, hS⟩, hU, hdef, hh⟩ := hI
  unfold St.matN
  split
  · rename_i ag cs hsl
    have hcu : avsU U cs := by have := hU.sl m.2.1; rw [hsl] at this; exact this
    have hs := hS m.2.1
    rw [hsl] at hs
    split
    · rename_i k hcs
      split
      · rename_i e q xs d hob
        split
        · rename_i hd
          subst hd
          obtain ⟨g1, i1, i2, i3, i5⟩ := frz_one hH k
          rw [hob] at i1
          obtain ⟨hm, cs0, L, o1, o2, o3, o5⟩ := hH.deep hob
          have i4 : ∀ v, AVR g w (.row k) v → AVR g1 w (.n (.sl e q xs)) v := fun v hv => by
            rcases o5 with ⟨_, q1, q2⟩ | ⟨q1, _⟩ | ⟨q1, _⟩
            · have hN := hH.nodup k
              have hP := hH.plain k
              have hF := i5 ⟨_, _, _, _, hob⟩
              rw [q1, q2] at hN hP hF
              rw [hob] at hP
              refine ⟨e, q, xs, cs0, L, rfl, hm, by rw [hv.1]; exact o1, o2, by rw [hv.1]; exact hN, fun b mb => ?_⟩
              rw [hv.1] at mb
              exact ⟨hF b mb, hH.nw b (hP b mb).1, (hP b mb).2⟩
            · omega
            · omega
          have hUk : U k := Classical.byContradiction fun hn => by have := hU.gone _ hn; rw [hob] at this; simp at this
          refine ⟨U, ⟨⟨g1, i1, fun t => ?_⟩, ⟨fun t => ?_, fun j => ?_, fun j hj => ?_⟩, hdef, hh⟩, hk⟩
          · show SVR g1 w (upd st.sl m.2.1 (.p ag (cs.set (m.2.2 - 4096) (.n (.sl e q xs)))) t) _
            by_cases ht : t = m.2.1
            · subst ht
              rw [upd_same]
              have h0 : PVR g w ag cs (a.tmps.getD m.2.1 undef) := hs
              have h1 : PVR g1 w ag cs (a.tmps.getD m.2.1 undef) := (show SVR g w (.p ag cs) _ from hs).less i2 i3
              cases ag with
              | true =>
                obtain ⟨vs, e1, h4⟩ := h0
                obtain ⟨vs', e1', h4'⟩ := h1
                have ev : vs = vs' := by rw [e1] at e1'; simpa using e1'
                subst ev
                obtain ⟨u, u1, u2⟩ := h4.at hcs
                refine ⟨vs, e1, ?_⟩
                have := h4'.set (i := m.2.2 - 4096) (i4 u u2)
                obtain ⟨hl, he⟩ := List.getElem?_eq_some_iff.1 u1
                rw [← he, List.set_getElem_self hl] at this
                exact this
              | false =>
                obtain ⟨z, rfl, h4⟩ := h0
                cases hj : m.2.2 - 4096 with
                | zero => rw [hj] at hcs; simp at hcs; subst hcs; exact ⟨_, rfl, i4 _ h4⟩
                | succ j => rw [hj] at hcs; simp at hcs
            · rw [upd_ne _ _ ht]; exact (hS t).less i2 i3
          · show svU U (upd st.sl m.2.1 (.p ag (cs.set (m.2.2 - 4096) (.n (.sl e q xs)))) t)
            by_cases ht : t = m.2.1
            · subst ht; rw [upd_same]
              intro z mz
              rcases List.mem_or_eq_of_mem_set mz with mz | mz
              · exact hcu z mz
              · subst mz; trivial
            · rw [upd_ne _ _ ht]; exact hU.sl t
          · show obU U (upd st.ob k (.row e q xs 0) j)
            by_cases h1 : j = k
            · subst h1; rw [upd_same]; trivial
            · rw [upd_ne _ _ h1]; exact hU.ob j
          · show upd st.ob k (.row e q xs 0) j = _
            rw [upd_ne _ _ (show j ≠ k from fun e' => hj (e' ▸ hUk))]; exact hU.gone j hj
        · exact same
      · exact same
    · exact same
  · exact same
theorem mats_inv [NW] : ∀ (ms : List (Bool × Nat × Nat)) {U : Nat → Prop} {st : St}, Inv W U st a w → (∀ k, st.n ≤ k → ¬ U k) → ∃ U', Inv W U' (st.mats ms) a w
  | [], U, st, hI, _ => ⟨U, hI⟩
  | m :: r, U, st, hI, hk => by
    simp only [St.mats]
    split
    · obtain ⟨U', h1, h2⟩ := matN_inv m hI hk
      exact mats_inv r h1 h2
    · obtain ⟨U', h1, h2⟩ := mat_inv m hI hk
      exact mats_inv r h1 h2
theorem least {p : Nat → Prop} (h : ∃ n, p n) : ∃ n, p n ∧ ∀ m, m < n → ¬ p m := by
  obtain ⟨n, hn⟩ := h
  induction n using Nat.strongRecOn with
  | _ n ih =>
    by_cases hm : ∃ m, m < n ∧ p m
    · obtain ⟨m, h1, h2⟩ := hm; exact ih m h1 h2
    · exact ⟨n, hn, fun m h1 h2 => hm ⟨m, h1, h2⟩⟩
theorem wp_loop_n [NW] {c : Code} {Q : Exit → Act → World → Prop} (J : Nat → Act → World → Prop) (n : Nat) (h₀ : J n a w) (round : ∀ n a w, J n a w → c.wp P (Exit.then (fun a' w' => ∃ m, m < n ∧ J m a' w') Q) a w) : (Code.loop c).wp P Q a w := by
  classical
  let μ : Act → World → Nat := fun a w => if h : ∃ n, J n a w then Classical.choose (least h) else 0
  have hμ : ∀ a w (h : ∃ n, J n a w), J (μ a w) a w ∧ ∀ m, m < μ a w → ¬ J m a w := fun a w h => by
    simp only [μ, dif_pos h]
    exact Classical.choose_spec (least h)
  refine wp_loop (fun a w => ∃ n, J n a w) μ ⟨n, h₀⟩ fun a w h => ?_
  refine wp_mono (round (μ a w) a w (hμ a w h).1) fun e a' w' he => ?_
  cases e with
  | normal =>
    obtain ⟨m, h1, h2⟩ := he
    refine ⟨⟨m, h2⟩, ?_⟩
    have h3 := hμ a' w' ⟨m, h2⟩
    rcases Nat.lt_or_ge m (μ a' w') with h4 | h4
    · exact absurd h2 (h3.2 m h4)
    · omega
  | _ => exact he
mutual
theorem RC.deep {w : World} : ∀ {x : CT} {v : Value} {L : List Nat}, RC w x v L → ctD x
  | .int _ _, _, _, _ => trivial
  | .bool _, _, _, _ => trivial
  | .str _, _, _, h => h.2.2
  | .sl _ _ _, _, _, ⟨A, cap, cs, L0, L1, h1, h2, h3, h4, h5, h6, h7⟩ => ⟨by unfold maxLen at h3; omega, h7.deep⟩
  | .pt _, _, _, ⟨_, _, _, _, _, _, _, h⟩ => h.deep
  | .fn _ _, _, _, ⟨_, _, h⟩ => h.deep
  | .mp _ _ _, _, _, _ => trivial
  | .ifc _, _, _, _ => trivial
theorem RCs.deep {w : World} : ∀ {x : List CT} {v : List Value} {L : List Nat}, RCs w x v L → ctsD x
  | [], _, _, _ => trivial
  | _ :: _, _, _, ⟨v, cs, L1, L2, h1, h2, h3, h4⟩ => ⟨h3.deep, h4.deep⟩
theorem REs.deep {w : World} {m : Nat} : ∀ {x : List (List CT)} {v : List Value} {L : List Nat}, REs w m x v L → essD x
  | [], _, _, _ => trivial
  | _ :: _, _, _, ⟨c1, c2, L1, L2, h1, h2, h3, h4⟩ => ⟨h3.1.deep, h4.deep⟩
end
theorem AVR.deep [NW] {g : Gh} {w : World} : ∀ {x : AV} {v : Value}, AVR g w x v → avD x
  | .c _, _, ⟨_, h, _⟩ => h.deep
  | .n _, _, h => by obtain ⟨_, h1, _⟩ := NR.toC h; exact h1.deep
  | .row _, _, _ => trivial
  | .nil _ _, _, _ => trivial
  | .dead, _, _ => trivial
theorem AVRs.deep [NW] {g : Gh} {w : World} : ∀ {x : List AV} {v : List Value}, All2 (AVR g w) x v → avsD x
  | [], [], _ => trivial
  | _ :: _, _ :: _, h => ⟨h.1.deep, AVRs.deep h.2⟩
  | [], _ :: _, h => h.elim
  | _ :: _, [], h => h.elim
theorem Inv.deep [NW] (hI : Inv W U st a w) : WF st := by
  obtain ⟨⟨g, hH, hS⟩, hU, hdef, hh⟩ := hI
  refine ⟨fun t b cs ht => ?_, fun k t cs hk => ?_, fun k e m xs d hk => ?_⟩
  · have h := hS t
    rw [ht] at h
    cases b with
    | true => obtain ⟨vs, _, h2⟩ := h; exact AVRs.deep h2
    | false => obtain ⟨x, rfl, h2⟩ := h; exact ⟨h2.deep, trivial⟩
  · have h := hH.obs k
    rw [hk] at h
    obtain ⟨b, vs, _, _, _, _, h2⟩ := h
    exact AVRs.deep h2
  · have h := hH.obs k
    rw [hk] at h
    obtain ⟨_, cs, L, h1, h2, _⟩ := h
    refine ⟨?_, h2.deep⟩
    rcases h1.2 with ⟨_, h3⟩ | ⟨_, _, cap, _, _, _, _, h3, h4, _⟩
    · omega
    · unfold maxLen at h4; omega
def toExit : Ex → Exit
  | .normal => .normal
  | .exit id => .exit id
  | .ret => .ret
/-- the code's form: slots in range, open orders that do not matter -/
def codeOk (tt : Nat → Option TI) (hs : FuncId → Nat) (k0 : Bool) (N : Nat) : Code → Bool
  | .skip => true
  | .region _ ops d => (ops.toList.all fun o => match o.dst with | some t => Nat.blt t N && (!k0 || Nat.blt 0 t) | none => true) && (!d || drawOk tt hs ops)
  | .seq x y => codeOk tt hs k0 N x && codeOk tt hs k0 N y
  | .cond _ x y => codeOk tt hs k0 N x && codeOk tt hs k0 N y
  | .block _ x => codeOk tt hs k0 N x
  | .loop x => codeOk tt hs k0 N x
  | .exit _ => true
  | .ret => true
  | _ => false
theorem swp_sound [NW] (htt : MOk P J JF W tt) (hmix : P.follows .mixedOrders = true) {hds : FuncId → Nat} {k0 : Bool} (hk0 : W.hv = none ∨ k0 = true) {N : Nat} : ∀ (c : Code), codeOk tt hds k0 N c = true → ∀ (Qs : Ex → St → Prop) (Q : Exit → Act → World → Prop),
    (∀ ex U' st' a' w', Inv W U' st' a' w' → (∀ k, st'.n ≤ k → ¬ U' k) → a'.tmps.size = N → Qs ex st' → Q (toExit ex) a' w') →
    ∀ U st a w, Inv W U st a w → (∀ k, st.n ≤ k → ¬ U k) → a.tmps.size = N → swp tt (SC P J JF hds) c Qs st → c.wp P Q a w
  | .skip, _, Qs, Q, hQ, U, st, a, w, hI, hk, hs, h => wp_skip (hQ .normal U st a w hI hk hs h)
  | .exit id, _, Qs, Q, hQ, U, st, a, w, hI, hk, hs, h => wp_exit (hQ (.exit id) U st a w hI hk hs h)
  | .ret, _, Qs, Q, hQ, U, st, a, w, hI, hk, hs, h => wp_ret (hQ .ret U st a w hI hk hs h)
  | .region id ops d, hok, Qs, Q, hQ, U, st, a, w, hI, hk, hs, h => by
    simp only [codeOk, Bool.and_eq_true, List.all_eq_true] at hok
    have hN : ∀ o ∈ ops.toList, ∀ t, o.dst = some t → t < N ∧ (W.hv = none ∨ t ≠ 0) := fun o mo t ht => by
      have := hok.1 o mo
      rw [ht] at this
      simp only [Bool.and_eq_true, Bool.or_eq_true] at this
      refine ⟨Nat.le_of_ble_eq_true this.1, hk0.imp (fun h => h) fun h => ?_⟩
      rcases this.2 with h2 | h2
      · rw [h] at h2; simp at h2
      · have h3 : 0 < t := Nat.le_of_ble_eq_true h2
        exact Nat.ne_of_gt h3
    have hend : ∀ U' st' a' w', Inv W U' st' a' w' → (∀ k, st.n + 16 * ops.toList.length ≤ k → ¬ U' k) → a'.tmps.size = N → endK (st.n + 16 * ops.toList.length) (Qs .normal) st' → Q .normal a' w' := fun U' st' a' w' h1 h2 h3 h4 =>
      hQ .normal U' { st' with n := st.n + 16 * ops.toList.length } a' w' ⟨h1.ex, ⟨h1.wf.sl, h1.wf.ob, h1.wf.gone⟩, h1.defers, h1.hand⟩ h2 h3 h4
    have h' : opsS tt (SC P J JF hds) ops.toList st.n ops.toList (endK (st.n + 16 * ops.toList.length) (Qs .normal)) st := h
    cases d with
    | false =>
      refine wp_region ?_
      have := ops_sound (Q := Q) htt hN ops.toList 0 st.n U st a w (by simp) h' hI hk hs hend
      rw [List.range_eq_range']
      simpa using this
    | true =>
      have hdr : drawOk tt hds ops = true := by simpa using hok.2
      refine wp_region_any hmix ?_
      have h2 := opsI_of (tt := tt) (S := SC P J JF hds) (all := ops.toList) (base := st.n) (K := endK (st.n + 16 * ops.toList.length) (Qs .normal)) ops.toList 0 st (by simp) (by simpa using h')
      rw [← List.range_eq_range'] at h2
      have hI' : Inv W U st a { w with drawn := w.drawn + 1 } := by
        obtain ⟨⟨g, hH, hS⟩, hU, hdef, hh⟩ := hI
        have hw : ∀ b, b < w.heap.size → ¬ g.own b → ({ w with drawn := w.drawn + 1 } : World).heap[b]? = w.heap[b]? := fun _ _ _ => rfl
        refine ⟨⟨g, hH.step (U := U) (fun _ => False) ⟨hH.below.os, hH.below.tape, hH.below.output, hH.below.size, hH.below.block⟩ rfl (fun _ _ _ => rfl) (fun _ _ => ⟨rfl, rfl, rfl, rfl⟩) hU.ob (fun _ _ => rfl) (fun _ h => .inl h) (fun _ h => h.elim), fun t => ?_⟩, hU, hdef, hh⟩
        exact (hS t).move (hU.sl t) (fun _ _ => rfl) hw (fun _ h => .inl h) (Nat.le_refl _)
      refine any_sound (base := st.n) htt hN hdr (fun U' st' a' w' h1 h2 h3 h4 => hend U' st' a' w' h1 (by simpa using h2) h3 h4) ops.size (List.range ops.toList.length) (Array.replicate ops.size false) U st a _ (by simp) (List.pairwise_lt_range) (by simp) (fun i => ?_) (fun i o ho hl => ?_) h2 hI' (fun j _ k hk' _ => hk k (by omega)) (fun k hk' => hk k (by omega)) hs
      · simp only [List.mem_range, Array.length_toList]
        constructor
        · intro hi; exact ⟨hi, by simp [Array.getD_eq_getD_getElem?, hi]⟩
        · exact fun hi => hi.1
      · exfalso
        have hi : i < ops.size := (Array.getElem?_eq_some_iff.1 ho).1
        simp [Array.getD_eq_getD_getElem?, hi] at hl
  | .seq x y, hok, Qs, Q, hQ, U, st, a, w, hI, hk, hs, h => by
    simp only [codeOk, Bool.and_eq_true] at hok
    refine wp_seq (swp_sound htt hmix hk0 x hok.1 (thenK (swp tt (SC P J JF hds) y Qs) Qs) _ ?_ U st a w hI hk hs h)
    intro ex U' st' a' w' h1 h2 h3 h4
    cases ex with
    | normal => exact swp_sound htt hmix hk0 y hok.2 Qs Q hQ U' st' a' w' h1 h2 h3 h4
    | exit id => exact hQ (.exit id) U' st' a' w' h1 h2 h3 h4
    | ret => exact hQ .ret U' st' a' w' h1 h2 h3 h4
  | .cond c x y, hok, Qs, Q, hQ, U, st, a, w, hI, hk, hs, h => by
    simp only [codeOk, Bool.and_eq_true] at hok
    simp only [swp, condK] at h
    split at h
    · rename_i hb
      obtain ⟨b, hb'⟩ : ∃ b, st.ev tt 0 c = .p false [.c (.bool b)] := by
        unfold isBool at hb
        split at hb
        · rename_i b he; exact ⟨b, he⟩
        · simp at hb
      obtain ⟨g, hH, hS⟩ := hI.ex
      have hv := (ev_ok (P := P) htt.tt hS hI.wf 0 c).1
      rw [hb'] at hv
      have hv' := bool_of hv
      refine wp_cond hv' ?_
      cases b with
      | true => rw [if_pos (by rw [hb']; rfl)] at h; exact swp_sound htt hmix hk0 x hok.1 Qs Q hQ U st a w hI hk hs h
      | false => rw [if_neg (by rw [hb']; simp [getBool])] at h; exact swp_sound htt hmix hk0 y hok.2 Qs Q hQ U st a w hI hk hs h
    · exact h.elim
  | .block id x, hok, Qs, Q, hQ, U, st, a, w, hI, hk, hs, h => by
    refine wp_block (swp_sound htt hmix hk0 x hok (blockK id Qs) _ ?_ U st a w hI hk hs h)
    intro ex U' st' a' w' h1 h2 h3 h4
    cases ex with
    | normal => exact hQ .normal U' st' a' w' h1 h2 h3 h4
    | exit j =>
      show Exit.inBlock id Q (.exit j) a' w'
      simp only [blockK] at h4
      simp only [Exit.inBlock]
      split
      · rename_i e; rw [if_pos e] at h4; exact hQ .normal U' st' a' w' h1 h2 h3 h4
      · rename_i e; rw [if_neg e] at h4; exact hQ (.exit j) U' st' a' w' h1 h2 h3 h4
    | ret => exact hQ .ret U' st' a' w' h1 h2 h3 h4
  | .loop x, hok, Qs, Q, hQ, U, st, a, w, hI, hk, hs, h => by
    obtain ⟨n, hn⟩ := h
    refine wp_loop_n (fun n a w => ∃ U st, Inv W U st a w ∧ (∀ k, st.n ≤ k → ¬ U k) ∧ a.tmps.size = N ∧ loopN (swp tt (SC P J JF hds) x) Qs n st) n ⟨U, st, hI, hk, hs, hn⟩ ?_
    rintro n a w ⟨U, st, hI, hk, hs, hn⟩
    cases n with
    | zero => exact hn.elim
    | succ n =>
      obtain ⟨ms, ρ, hρ, hb⟩ := hn
      obtain ⟨U2, hI2⟩ := mats_inv ms hI hk
      refine swp_sound htt hmix hk0 x hok (thenK (loopN (swp tt (SC P J JF hds) x) Qs n) Qs) _ ?_ _ ((st.mats ms).ren ρ) a w (ren_inv hI2 hρ) (fun k hk' hU => by simp only [St.ren] at hk'; omega) hs (hb (ren_inv hI2 hρ).deep)
      intro ex U' st' a' w' h1 h2 h3 h4
      cases ex with
      | normal => exact ⟨n, by omega, U', st', h1, h2, h3, h4⟩
      | exit id => exact hQ (.exit id) U' st' a' w' h1 h2 h3 h4
      | ret => exact hQ .ret U' st' a' w' h1 h2 h3 h4
  | .rangeFunc _ _ _ _, hok, _, _, _, _, _, _, _, _, _, _, _ => by simp [codeOk] at hok
  | .scope _, hok, _, _, _, _, _, _, _, _, _, _, _ => by simp [codeOk] at hok
  | .label _, hok, _, _, _, _, _, _, _, _, _, _, _ => by simp [codeOk] at hok
  | .goto _, hok, _, _, _, _, _, _, _, _, _, _, _ => by simp [codeOk] at hok
  | .refuse _, hok, _, _, _, _, _, _, _, _, _, _, _ => by simp [codeOk] at hok
end
end Go.Proofs.YtlkgkkacnoaeaaaGreatDoor

namespace Go.Proofs.YtlkgkkacnoaeaaaGreatDoor
open Go.RowKit
section
variable {P : Program} {J : World → Prop} {JF : Nat → Prop} {W : Base} {U : Nat → Prop} {st : St} {w w' : World} {a : Act} {tt : Nat → Option TI} {g : Gh}
/-- the blocks that are written to behind the call: those of calls below, and those of the rows that are given -/
def nK (g : Gh) (K : Nat → Prop) (b : Nat) : Prop := g.Z b ∨ ∃ k, K k ∧ b ∈ g.O k
theorem own_base {k e m n B : Nat} {cs : List Value} (h : w.ownsV 0 e m (g.val k) n cs) (hB : ∀ b ∈ (g.val k).ownBlock.toList, B ≤ b) : w.ownsV B e m (g.val k) n cs := by
  refine ⟨h.1, ?_⟩
  rcases h.2 with h0 | ⟨q, o, cap, cur, hv, hg, r⟩
  · exact .inl h0
  · exact .inr ⟨q, o, cap, cur, hv, hB q (by simp [hv, Value.ownBlock]), r⟩
variable {K : Nat → Prop}
theorem resAV_ok [NW] (hI : HI W g st.ob w) (hK : ∀ k, K k → mapB (st.ob k) = false ∧ ∀ e m xs d, st.ob k = .row e m xs d → d = 2) {x : AV} {ct : Bool × CT} {ks : List Nat} {v : Value} (h : resAV st x = some (ct, ks)) (hks : ∀ k ∈ ks, K k ∧ ∀ b ∈ g.O k ++ g.D k, W.heap.size ≤ b) (hx : AVR g w x v) : OC w W.heap.size (nK g K) ct v (g.F ks) := by
  have hsub : ∀ b, nK g K b → g.own b := fun b hb => by
    rcases hb with hz | ⟨k, _, mk⟩
    · exact .inr hz
    · exact .inl ⟨k, mk⟩
  cases x with
  | c y =>
    obtain ⟨L, h1, h2⟩ := hx
    cases y <;> simp only [resAV, Option.some.injEq, Prod.mk.injEq] at h <;> obtain ⟨rfl, rfl⟩ := h
    · exact ⟨⟨h1.1, rfl⟩, by simp [Gh.F]⟩
    · exact ⟨⟨h1.1, rfl⟩, by simp [Gh.F]⟩
    · exact ⟨⟨h1.1, rfl, h1.2.2⟩, by simp [Gh.F]⟩
    · exact ⟨by simp [Gh.F], L, h1, fun b mb hb => h2 b mb (hsub b hb)⟩
    · exact ⟨by simp [Gh.F], L, h1, fun b mb hb => h2 b mb (hsub b hb)⟩
    · exact ⟨by simp [Gh.F], L, h1, fun b mb hb => h2 b mb (hsub b hb)⟩
    · exact ⟨by simp [Gh.F], L, h1, fun b mb hb => h2 b mb (hsub b hb)⟩
    · exact ⟨⟨rfl, h1.2⟩, by simp [Gh.F]⟩
  | row k =>
    simp only [resAV] at h
    split at h
    · rename_i e m xs d hk
      obtain ⟨hm, cs, L, o1, o2, o3, o5⟩ := hI.deep hk
      split at h
      · rename_i hd
        simp only [Option.some.injEq, Prod.mk.injEq] at h
        obtain ⟨rfl, rfl⟩ := h
        have hKk := hks k (by simp)
        rcases o5 with ⟨_, q1, q2⟩ | ⟨q, _⟩ | ⟨q, _⟩
        · refine ⟨hm, cs, L, by rw [hx.1]; exact own_base o1 fun b mb => hKk.2 b (by simp [q1, mb]), o2, by simp [Gh.F, q1, q2, hx.1], fun b mb => .inr ⟨k, hKk.1, by rw [q1]; rw [hx.1] at mb; exact mb⟩⟩
        · omega
        · omega
      · rename_i hd
        simp only [Option.some.injEq, Prod.mk.injEq] at h
        obtain ⟨rfl, rfl⟩ := h
        have hnK : ¬ K k := fun h => hd ((hK k h).2 e m xs d hk)
        obtain ⟨A, cap, L0, s1, s2, s3, s4, s5⟩ := Sl.row o1
        refine ⟨by simp [Gh.F], L0 ++ L, ⟨A, cap, cs, L0, L, by rw [hx.1, s1], s2, s3, rfl, hm, s4, o2⟩, fun b mb hb => ?_⟩
        rcases List.mem_append.1 mb with m1 | m1
        · have m2 := s5.subset m1
          rcases o5 with ⟨q, _⟩ | ⟨_, q1, q2⟩ | ⟨_, _, _, q⟩
          · exact hd q
          · have mk : b ∈ g.O k ++ g.D k := by simp [q1, m2]
            rcases hb with hz | ⟨j, hj, mj⟩
            · exact hI.nz mk hz
            · exact hI.apart k j (fun e => hnK (e ▸ hj)) b mk (by simp [mj])
          · exact q b m2 (hsub b hb)
        · exact o3 b m1 (hsub b hb)
    · rename_i kk vk kv hk
      simp only [Option.some.injEq, Prod.mk.injEq] at h
      obtain ⟨rfl, rfl⟩ := h
      have ho := hI.obs k
      rw [hk] at ho
      obtain ⟨b, es, c, q1, q2, q3, q4, q5, q6⟩ := ho
      have hnK : ¬ K k := fun h => by have := (hK k h).1; rw [hk] at this; simp [mapB] at this
      refine ⟨by simp [Gh.F], [b], ⟨b, es, c, by rw [hx.1, q1], q4, q5, q6, rfl⟩, fun x mx hb => ?_⟩
      simp at mx; subst mx
      have mk : x ∈ g.O k ++ g.D k := by simp [q2]
      rcases hb with hz | ⟨j, hj, mj⟩
      · exact hI.nz mk hz
      · exact hI.apart k j (fun e => hnK (e ▸ hj)) x mk (by simp [mj])
    · simp at h
  | nil e m =>
    simp only [resAV] at h
    split at h
    · rename_i hm
      simp only [Option.some.injEq, Prod.mk.injEq] at h
      obtain ⟨rfl, rfl⟩ := h
      have hx' : v = .slice none 0 0 := hx
      subst hx'
      exact ⟨hm, [], [], ownsV_nil _ _ _ _, ⟨rfl, rfl⟩, by simp [Gh.F, Value.ownBlock], by simp [Value.ownBlock]⟩
    · simp at h
  | n y =>
    obtain ⟨L, h1, h2⟩ := NR.toC hx
    simp only [resAV, Option.some.injEq, Prod.mk.injEq] at h
    obtain ⟨rfl, rfl⟩ := h
    exact ⟨by simp [Gh.F], L, h1, fun b mb hb => h2 b mb (hsub b hb)⟩
  | dead => simp [resAV] at h
theorem resAVs_ok [NW] (hI : HI W g st.ob w) (hK : ∀ k, K k → mapB (st.ob k) = false ∧ ∀ e m xs d, st.ob k = .row e m xs d → d = 2) : ∀ {xs : List AV} {cts : List (Bool × CT)} {ks : List Nat} {vs : List Value}, resAVs st xs = some (cts, ks) → (∀ k ∈ ks, K k ∧ ∀ b ∈ g.O k ++ g.D k, W.heap.size ≤ b) → All2 (AVR g w) xs vs → OCs w W.heap.size (nK g K) cts vs (g.F ks)
  | [], _, _, [], h, _, _ => by
    simp only [resAVs, Option.some.injEq, Prod.mk.injEq] at h
    obtain ⟨rfl, rfl⟩ := h
    exact ⟨rfl, by simp [Gh.F]⟩
  | [], _, _, _ :: _, _, _, h => h.elim
  | _ :: _, _, _, [], _, _, h => h.elim
  | x :: r, cts, ks, v :: vs, h, hks, hr => by
    simp only [resAVs] at h
    obtain ⟨⟨c1, k1⟩, h1, h⟩ := Option.bind_eq_some_iff.1 h
    obtain ⟨⟨c2, k2⟩, h2, h⟩ := Option.map_eq_some_iff.1 h
    simp only [Prod.mk.injEq] at h
    obtain ⟨rfl, rfl⟩ := h
    exact ⟨v, vs, g.F k1, g.F k2, rfl, by simp [Gh.F], resAV_ok hI hK h1 (fun k mk => hks k (by simp [mk])) hr.1, resAVs_ok hI hK h2 (fun k mk => hks k (by simp [mk])) hr.2⟩
theorem resPV_ok [NW] (hI : HI W g st.ob w) (hK : ∀ k, K k → mapB (st.ob k) = false ∧ ∀ e m xs d, st.ob k = .row e m xs d → d = 2) {ag : Bool} {cs : List AV} {cts : List (Bool × CT)} {ks : List Nat} {v : Value} (h : resAVs st cs = some (cts, ks)) (hks : ∀ k ∈ ks, K k ∧ ∀ b ∈ g.O k ++ g.D k, W.heap.size ≤ b) (hx : PVR g w ag cs v) : OP w W.heap.size (nK g K) (ag, cts) v (g.F ks) := by
  cases ag with
  | true => obtain ⟨vs, rfl, h2⟩ := hx; exact .inl ⟨rfl, vs, rfl, resAVs_ok hI hK h hks h2⟩
  | false =>
    obtain ⟨x, rfl, h2⟩ := hx
    simp only [resAVs] at h
    obtain ⟨⟨c1, k1⟩, h1, h⟩ := Option.bind_eq_some_iff.1 h
    simp at h
    obtain ⟨rfl, rfl⟩ := h
    exact .inr ⟨rfl, c1, rfl, resAV_ok hI hK h1 hks h2⟩
/- what is given is said to be lent -/
theorem wkC_ok [NW] {B : Nat} {n : Nat → Prop} : ∀ {r res : List (Bool × CT)} {vs : List Value} {F : List Nat}, OCs w B n r vs F → wkC r res → F.Nodup → ∃ F', F'.Sublist F ∧ ∀ m : Nat → Prop, (∀ b ∈ F', n b → m b) → (∀ b, m b → n b) → (∀ b ∈ F, m b → b ∈ F') → OCs w B m res vs F'
  | [], [], vs, F, h, _, _ => ⟨[], by simp, fun m _ _ _ => ⟨h.1, rfl⟩⟩
  | [], _ :: _, _, _, _, h, _ => h.elim
  | _ :: _, [], _, _, _, h, _ => h.elim
  | x :: r, y :: res, _, _, ⟨v, vs, F1, F2, rfl, rfl, h1, h2⟩, ⟨e1, e2, hw⟩, hnd => by
    rw [List.nodup_append] at hnd
    obtain ⟨F2', s2, h2'⟩ := wkC_ok h2 hw hnd.2.1
    have key : ∃ F1', F1'.Sublist F1 ∧ ∀ m : Nat → Prop, (∀ b ∈ F1', n b → m b) → (∀ b, m b → n b) → (∀ b ∈ F1, m b → b ∈ F1') → OC w B m y v F1' := by
      obtain ⟨b1, x⟩ := x
      obtain ⟨b2, y⟩ := y
      simp only at e1 e2
      subst e1
      cases b1 with
      | true =>
        have : b2 = true := by rcases e2 with e | e <;> simp_all
        subst this
        obtain ⟨rfl, L, q1, q2⟩ := h1
        exact ⟨[], by simp, fun m _ m2 _ => ⟨rfl, L, q1, fun b mb hb => q2 b mb (m2 b hb)⟩⟩
      | false =>
        cases b2 with
        | false =>
          refine ⟨F1, List.Sublist.refl _, fun m m1 _ _ => ?_⟩
          cases x with
          | sl e q xs =>
            obtain ⟨hm, cs, L, o1, o2, o3, o4⟩ := h1
            exact ⟨hm, cs, L, o1, o2, o3, fun b mb => m1 b (by simp [o3, mb]) (o4 b mb)⟩
          | int k i => exact h1
          | bool b => exact h1
          | str s => exact h1
          | ifc s => exact h1
          | _ => exact h1.elim
        | true =>
          refine ⟨[], by simp, fun m _ _ m3 => ⟨rfl, ?_⟩⟩
          cases x with
          | sl e q xs =>
            obtain ⟨hm, cs, L, o1, o2, o3, o4⟩ := h1
            obtain ⟨A, cap, L0, s1, s2, s3, s4, s5⟩ := Sl.row o1
            refine ⟨L0 ++ L, ⟨A, cap, cs, L0, L, s1, s2, s3, rfl, hm, s4, o2⟩, fun b mb hb => ?_⟩
            have : b ∈ F1 := by
              rw [o3]
              rcases List.mem_append.1 mb with m1 | m1
              · exact List.mem_append.2 (.inl (s5.subset m1))
              · exact List.mem_append.2 (.inr m1)
            have := m3 b this hb
            simp at this
          | int k i => exact ⟨[], h1.1, by simp⟩
          | bool b => exact ⟨[], h1.1, by simp⟩
          | str s => exact ⟨[], h1.1, by simp⟩
          | ifc s => exact ⟨[], h1.1, by simp⟩
          | _ => exact h1.elim
    obtain ⟨F1', s1, h1'⟩ := key
    refine ⟨F1' ++ F2', List.Sublist.append s1 s2, fun m m1 m2 m3 => ⟨v, vs, F1', F2', rfl, rfl, h1' m (fun b mb => m1 b (by simp [mb])) m2 (fun b mb hb => ?_), h2' m (fun b mb => m1 b (by simp [mb])) m2 (fun b mb hb => ?_)⟩⟩
    · rcases List.mem_append.1 (m3 b (by simp [mb]) hb) with h | h
      · exact h
      · exact absurd rfl (hnd.2.2 b mb b (s2.subset h))
    · rcases List.mem_append.1 (m3 b (by simp [mb]) hb) with h | h
      · exact absurd rfl (hnd.2.2 b (s1.subset h) b mb)
      · exact h
theorem wkP_ok [NW] {B : Nat} {n : Nat → Prop} {x y : RT} {v : Value} {F : List Nat} (h : OP w B n x v F) (e1 : x.1 = y.1) (hw : wkC x.2 y.2) (hnd : F.Nodup) : ∃ F', F'.Sublist F ∧ ∀ m : Nat → Prop, (∀ b ∈ F', n b → m b) → (∀ b, m b → n b) → (∀ b ∈ F, m b → b ∈ F') → OP w B m y v F' := by
  rcases h with ⟨h1, vs, rfl, h2⟩ | ⟨h1, ct, h2, h3⟩
  · obtain ⟨F', s, h⟩ := wkC_ok h2 hw hnd
    exact ⟨F', s, fun m a b c => .inl ⟨e1 ▸ h1, vs, rfl, h m a b c⟩⟩
  · obtain ⟨F', s, h⟩ := wkC_ok (r := x.2) (vs := [v]) (F := F) (by rw [h2]; exact ⟨v, [], F, [], rfl, by simp, h3, rfl, rfl⟩) hw hnd
    refine ⟨F', s, fun m p1 p2 p3 => .inr ⟨e1 ▸ h1, ?_⟩⟩
    have h4 := h m p1 p2 p3
    generalize y.2 = l at h4 hw
    cases l with
    | nil => rw [h2] at hw; exact hw.elim
    | cons c l =>
      cases l with
      | nil =>
        obtain ⟨v', vs', F1, F2, q1, rfl, q3, q4⟩ := h4
        simp only [List.cons.injEq] at q1
        obtain ⟨rfl, rfl⟩ := q1
        obtain ⟨_, rfl⟩ := q4
        exact ⟨c, rfl, by simpa using q3⟩
      | cons _ _ => rw [h2] at hw; exact hw.2.2.elim
theorem wkR_ok [NW] {B : Nat} {n : Nat → Prop} : ∀ {r res : List RT} {vs : List Value} {F : List Nat}, OPs w B n r vs F → wkR r res → F.Nodup → ∃ F', F'.Sublist F ∧ ∀ m : Nat → Prop, (∀ b ∈ F', n b → m b) → (∀ b, m b → n b) → (∀ b ∈ F, m b → b ∈ F') → OPs w B m res vs F'
  | [], [], vs, F, h, _, _ => ⟨[], by simp, fun m _ _ _ => ⟨h.1, rfl⟩⟩
  | [], _ :: _, _, _, _, h, _ => h.elim
  | _ :: _, [], _, _, _, h, _ => h.elim
  | x :: r, y :: res, _, _, ⟨v, vs, F1, F2, rfl, rfl, h1, h2⟩, ⟨e1, e2, hw⟩, hnd => by
    rw [List.nodup_append] at hnd
    obtain ⟨F2', s2, h2'⟩ := wkR_ok h2 hw hnd.2.1
    obtain ⟨F1', s1, h1'⟩ := wkP_ok h1 e1 e2 hnd.1
    refine ⟨F1' ++ F2', List.Sublist.append s1 s2, fun m m1 m2 m3 => ⟨v, vs, F1', F2', rfl, rfl, h1' m (fun b mb => m1 b (by simp [mb])) m2 (fun b mb hb => ?_), h2' m (fun b mb => m1 b (by simp [mb])) m2 (fun b mb hb => ?_)⟩⟩
    · rcases List.mem_append.1 (m3 b (by simp [mb]) hb) with h | h
      · exact h
      · exact absurd rfl (hnd.2.2 b mb b (s2.subset h))
    · rcases List.mem_append.1 (m3 b (by simp [mb]) hb) with h | h
      · exact absurd rfl (hnd.2.2 b (s1.subset h) b mb)
      · exact h
def resRun (tmps : Array Value) : ResultVar → Sem Value
  | .tmp t => pure (tmps.getD t undef)
  | .cell b t => do loadVar t (← asAddr (tmps.getD b undef))
theorem results_eq (fn : Func) (tmps : Array Value) : results fn tmps = (do let vs ← fn.results.mapM (resRun tmps); pure (if h : vs.size = 1 then vs[0] else .tuple vs)) := by
  unfold results
  congr 1
theorem resOf_ok [NW] (htt : ∀ t i, tt t = some i → TOk P t i) (hI : HI W g st.ob w) (hS : ∀ t, SVR g w (st.sl t) (a.tmps.getD t undef)) (hU : StU U st) (hK : ∀ k, K k → mapB (st.ob k) = false ∧ ∀ e m xs d, st.ob k = .row e m xs d → d = 2) : ∀ {rs : List ResultVar} {res : List RT} {ks : List Nat}, resOf tt st rs = some (res, ks) → (∀ k ∈ ks, K k ∧ ∀ b ∈ g.O k ++ g.D k, W.heap.size ≤ b) →
    ∃ vs : List Value, (rs.mapM (resRun a.tmps)).run P w = .ok vs w ∧ OPs w W.heap.size (nK g K) res vs (g.F ks)
  | [], res, ks, h, _ => by
    simp only [resOf, Option.some.injEq, Prod.mk.injEq] at h
    obtain ⟨rfl, rfl⟩ := h
    exact ⟨[], by simp, rfl, by simp [Gh.F]⟩
  | .tmp t :: r, res, ks, h, hks => by
    simp only [resOf] at h
    split at h
    · rename_i ag cs hsl
      obtain ⟨⟨c1, k1⟩, h1, h⟩ := Option.bind_eq_some_iff.1 h
      obtain ⟨⟨c2, k2⟩, h2, h⟩ := Option.map_eq_some_iff.1 h
      simp only [Prod.mk.injEq] at h
      obtain ⟨rfl, rfl⟩ := h
      obtain ⟨vs, i1, i2⟩ := resOf_ok htt hI hS hU hK h2 (fun k mk => hks k (by simp [mk]))
      have hs := hS t
      rw [hsl] at hs
      refine ⟨a.tmps.getD t undef :: vs, ?_, _, vs, g.F k1, g.F k2, rfl, by simp [Gh.F], resPV_ok hI hK h1 (fun k mk => hks k (by simp [mk])) hs, i2⟩
      simp only [List.mapM_cons, resRun, Sem.run_bind, Sem.run_pure, Result.andThen_ok, i1]
    · simp at h
  | .cell t ty :: r, res, ks, h, hks => by
    simp only [resOf] at h
    split at h
    · rename_i ag cs hsl
      obtain ⟨⟨c1, k1⟩, h1, h⟩ := Option.bind_eq_some_iff.1 h
      obtain ⟨⟨c2, k2⟩, h2, h⟩ := Option.map_eq_some_iff.1 h
      simp only [Prod.mk.injEq] at h
      obtain ⟨rfl, rfl⟩ := h
      obtain ⟨vs, i1, i2⟩ := resOf_ok htt hI hS hU hK h2 (fun k mk => hks k (by simp [mk]))
      obtain ⟨cv, l1, l2, _⟩ := load_ok (P := P) (U := U) htt hI hU hsl (hS t)
      have hl : (do loadVar ty (← asAddr (a.tmps.getD t undef)) : Sem Value).run P w = .ok cv w := by
        have : ∃ b, a.tmps.getD t undef = .pointer (some b) := by
          have hs := hS t
          cases hsl' : st.sl t with
          | bp k off => rw [hsl'] at hs; obtain ⟨b, _, hv⟩ := hs; exact ⟨_, hv⟩
          | rp k m i off => rw [hsl'] at hs; obtain ⟨b, _, _, _, _, hv⟩ := hs; exact ⟨_, hv⟩
          | ep e off => rw [hsl'] at hs; obtain ⟨b, _, _, _, hv, _⟩ := hs; exact ⟨_, hv⟩
          | p ag2 cs2 =>
            rw [hsl'] at hs hsl
            cases ag2 with
            | true => simp [loadV] at hsl
            | false =>
              cases cs2 with
              | nil => simp [loadV] at hsl
              | cons y q =>
                cases q with
                | cons _ _ => cases y <;> first | (simp [loadV] at hsl; done) | (rename_i z; cases z <;> simp [loadV] at hsl)
                | nil => cases y with
                  | c z => cases z with
                    | pt e => obtain ⟨b, _, _, hv, _⟩ := pt_of hs; exact ⟨_, hv⟩
                    | _ => simp [loadV] at hsl
                  | _ => simp [loadV] at hsl
          | _ => rw [hsl'] at hsl; simp [loadV] at hsl
        obtain ⟨b, hb⟩ := this
        rw [hb] at l1 ⊢
        simpa [Instr.loadAt, Instr.sureAddr, asAddr] using l1
      refine ⟨cv :: vs, ?_, _, vs, g.F k1, g.F k2, rfl, by simp [Gh.F], resPV_ok hI hK h1 (fun k mk => hks k (by simp [mk])) l2, i2⟩
      have hl' : (resRun a.tmps (.cell t ty)).run P w = .ok cv w := hl
      simp only [List.mapM_cons, Sem.run_bind, hl', i1, Sem.run_pure, Result.andThen_ok]
    · simp at h
theorem ks_row : ∀ {xs : List AV} {cts : List (Bool × CT)} {ks : List Nat}, resAVs st xs = some (cts, ks) → ∀ k ∈ ks, ∃ e m xs, st.ob k = .row e m xs 2
  | [], _, _, h, k, mk => by
    simp only [resAVs, Option.some.injEq, Prod.mk.injEq] at h
    rw [← h.2] at mk; simp at mk
  | x :: r, cts, ks, h, k, mk => by
    simp only [resAVs] at h
    obtain ⟨⟨c1, k1⟩, h1, h⟩ := Option.bind_eq_some_iff.1 h
    obtain ⟨⟨c2, k2⟩, h2, h⟩ := Option.map_eq_some_iff.1 h
    simp only [Prod.mk.injEq] at h
    obtain ⟨rfl, rfl⟩ := h
    rcases List.mem_append.1 mk with mk | mk
    · cases x with
      | c y => cases y <;> simp only [resAV, Option.some.injEq, Prod.mk.injEq] at h1 <;> (rw [← h1.2] at mk; simp at mk)
      | row j =>
        simp only [resAV] at h1
        split at h1
        · rename_i e m xs d hk
          split at h1
          · rename_i hd
            simp only [Option.some.injEq, Prod.mk.injEq] at h1
            rw [← h1.2] at mk
            simp at mk
            subst mk
            exact ⟨e, m, xs, by rw [hk, hd]⟩
          · simp only [Option.some.injEq, Prod.mk.injEq] at h1
            rw [← h1.2] at mk; simp at mk
        · simp only [Option.some.injEq, Prod.mk.injEq] at h1
          rw [← h1.2] at mk; simp at mk
        · simp at h1
      | nil e m =>
        simp only [resAV] at h1
        split at h1
        · simp only [Option.some.injEq, Prod.mk.injEq] at h1
          rw [← h1.2] at mk; simp at mk
        · simp at h1
      | n y =>
        simp only [resAV, Option.some.injEq, Prod.mk.injEq] at h1
        rw [← h1.2] at mk; simp at mk
      | dead => simp [resAV] at h1
    · exact ks_row h2 k mk
theorem ks_rows [NW] : ∀ {rs : List ResultVar} {res : List RT} {ks : List Nat}, resOf tt st rs = some (res, ks) → ∀ k ∈ ks, ∃ e m xs, st.ob k = .row e m xs 2
  | [], _, _, h, k, mk => by
    simp only [resOf, Option.some.injEq, Prod.mk.injEq] at h
    rw [← h.2] at mk; simp at mk
  | .tmp t :: r, res, ks, h, k, mk => by
    simp only [resOf] at h
    split at h
    · obtain ⟨⟨c1, k1⟩, h1, h⟩ := Option.bind_eq_some_iff.1 h
      obtain ⟨⟨c2, k2⟩, h2, h⟩ := Option.map_eq_some_iff.1 h
      simp only [Prod.mk.injEq] at h
      obtain ⟨rfl, rfl⟩ := h
      rcases List.mem_append.1 mk with mk | mk
      · exact ks_row h1 k mk
      · exact ks_rows h2 k mk
    · simp at h
  | .cell t ty :: r, res, ks, h, k, mk => by
    simp only [resOf] at h
    split at h
    · obtain ⟨⟨c1, k1⟩, h1, h⟩ := Option.bind_eq_some_iff.1 h
      obtain ⟨⟨c2, k2⟩, h2, h⟩ := Option.map_eq_some_iff.1 h
      simp only [Prod.mk.injEq] at h
      obtain ⟨rfl, rfl⟩ := h
      rcases List.mem_append.1 mk with mk | mk
      · exact ks_row h1 k mk
      · exact ks_rows h2 k mk
    · simp at h
theorem arg_SVR [NW] {z : Nat → Prop} {x : Bool × List CT} {v : Value} (hg : ∀ b, g.own b → z b) (h : ArgR w z x v) : SVR g w (.p x.1 (x.2.map .c)) v := by
  rcases h with ⟨h1, vs, L, rfl, h2, h4⟩ | ⟨h1, ct, L, h2, h3, h4⟩
  · rw [h1]; exact ⟨vs, rfl, h2.avr fun b mb hb => h4 b mb (hg b hb)⟩
  · rw [h1, h2]; exact ⟨_, rfl, L, h3, fun b mb hb => h4 b mb (hg b hb)⟩
/-- the results of a call whose code has run to its end -/
theorem ret_ok [NW] (htt : ∀ t i, tt t = some i → TOk P t i) {fn : Func} {res : List RT} (hI : Inv W U st a w) (hH : HI W g st.ob w) (hS : ∀ t, SVR g w (st.sl t) (a.tmps.getD t undef)) {r : List RT} {ks : List Nat} (hx : resOf tt st fn.results.toList = some (r, ks)) (hnd : ks.Nodup) (hw : wkR r res)
    (hB : ∀ k ∈ ks, ∀ b ∈ g.O k ++ g.D k, W.heap.size ≤ b) (K0 : Nat → Prop) (hK0 : ∀ k, K0 k → mapB (st.ob k) = false ∧ ∀ e m xs d, st.ob k = .row e m xs d → d = 2) :
    ∃ v m, (results fn a.tmps).run P w = .ok v w ∧ ResR w W.heap.size m res v ∧ (∀ b, m b → g.own b) ∧ (∀ b, m b → g.Z b ∨ (∃ k, (k ∈ ks ∨ K0 k) ∧ b ∈ g.O k)) ∧ ∀ b, b ∉ g.F ks → (g.Z b ∨ ∃ k, K0 k ∧ b ∈ g.O k) → m b := by
  obtain ⟨us, r1, r2⟩ := resOf_ok (K := fun k => k ∈ ks ∨ K0 k) htt hH hS hI.wf (fun k hk => by
    rcases hk with hk | hk
    · obtain ⟨e', m', xs', h'⟩ := ks_rows hx k hk
      refine ⟨by rw [h']; rfl, fun e m xs d he => ?_⟩
      rw [he] at h'
      simp only [Ob.row.injEq] at h'
      exact h'.2.2.2
    · exact hK0 k hk) hx (fun k mk => ⟨.inl mk, hB k mk⟩)
  have hndF := hH.nodupF hnd
  obtain ⟨F', s, hF⟩ := wkR_ok r2 hw hndF
  have hge : ∀ b ∈ g.F ks, W.heap.size ≤ b := fun b mb => by
    obtain ⟨k, hk, mk⟩ := mem_F mb
    exact hB k hk b mk
  refine ⟨(if h : us.toArray.size = 1 then us.toArray[0] else .tuple us.toArray), fun b => nK g (fun k => k ∈ ks ∨ K0 k) b ∧ (b ∈ g.F ks → b ∈ F'), ?_, ⟨us, F', hF _ (fun b mb hb => ⟨hb, fun _ => mb⟩) (fun b hb => hb.1) (fun b mb hb => hb.2 mb), ⟨hndF.sublist s, fun b mb => hge b (s.subset mb), fun b mb => ?_⟩, rfl⟩, fun b hb => ?_, fun b hb => hb.1, fun b hb hn => ⟨?_, fun mb => absurd mb hb⟩⟩
  · rw [results_eq]
    have e : fn.results.mapM (resRun a.tmps) = List.toArray <$> fn.results.toList.mapM (resRun a.tmps) := by
      rw [← List.mapM_toArray]
    have e2 : (List.toArray <$> fn.results.toList.mapM (resRun a.tmps)).run P w = .ok us.toArray w := by
      rw [map_eq_pure_bind]
      simp only [Sem.run_bind, r1, Result.andThen_ok, Sem.run_pure]
    rw [e]
    simp only [Sem.run_bind, e2, Result.andThen_ok, Sem.run_pure]
  · obtain ⟨k, hk, mk⟩ := mem_F (s.subset mb)
    obtain ⟨e', m', xs', h'⟩ := ks_rows hx k hk
    have := (hH.plain k b mk).2
    rw [h'] at this
    exact this
  · rcases hb.1 with hz | ⟨k, _, mk⟩
    · exact .inr hz
    · exact .inl ⟨k, mk⟩
  · rcases hn with hz | ⟨k, hk, mk⟩
    · exact .inl hz
    · exact .inr ⟨k, .inr hk, mk⟩
theorem keepS_ok [NW] {x : SV} {v : Value} {g' : Gh} (h : SVR g w x v) : SVR g' w (keepS x) v ∧ svU (fun k => k = 0) (keepS x) := by
  unfold keepS
  split
  · obtain ⟨y, hy, h⟩ := h
    simp at hy
    subst hy
    obtain ⟨L, ⟨h1, _⟩, _⟩ := h
    exact ⟨⟨_, rfl, [], ⟨h1, rfl⟩, by simp⟩, by intro y my; simp at my; subst my; trivial⟩
  · obtain ⟨y, hy, h⟩ := h
    simp at hy
    subst hy
    obtain ⟨L, ⟨h1, _⟩, _⟩ := h
    exact ⟨⟨_, rfl, [], ⟨h1, rfl⟩, by simp⟩, by intro y my; simp at my; subst my; trivial⟩
  · obtain ⟨y, hy, h⟩ := h
    simp at hy
    subst hy
    obtain ⟨L, ⟨h1, _, h3⟩, _⟩ := h
    exact ⟨⟨_, rfl, [], ⟨h1, rfl, h3⟩, by simp⟩, by intro y my; simp at my; subst my; trivial⟩
  · exact ⟨trivial, trivial⟩
/-- what has been only read is given after all -/
theorem thaw_inv [NW] (hB : W.heap.size ≤ NW.B0) (t : Nat) (hI : Inv W U st a w) : ∃ U', Inv W U' (st.thaw t) a w := by
  obtain ⟨⟨g, hH, hS⟩, hU, hdef, hh⟩ := hI
  unfold St.thaw
  cases hv : st.sl t with
  | p ag cs =>
    by_cases hc : ∃ e m xs, ag = false ∧ cs = [.n (.sl e m xs)]
    · obtain ⟨e, m, xs, rfl, rfl⟩ := hc
      have hs := hS t
      rw [hv] at hs
      obtain ⟨_, _, _, cs, L, h1, h2, h3, h4, h5, h6⟩ := un_N hs
      simp only [CT.sl.injEq] at h1
      obtain ⟨rfl, rfl, rfl⟩ := h1
      let v := a.tmps.getD t undef
      let g' : Gh := ⟨fun k => if k = 0 then v else undef, fun k => if k = 0 then v.ownBlock.toList else [], fun k => if k = 0 then L else [], g.Z⟩
      have hOD : ∀ k b, b ∈ g'.O k ++ g'.D k → k = 0 ∧ b ∈ v.ownBlock.toList ++ L := fun k b mb => by
        by_cases hk : k = 0
        · subst hk; exact ⟨rfl, mb⟩
        · simp [g', hk] at mb
      refine ⟨fun k => k = 0, ⟨g', ⟨hH.below, fun k => ?_, fun k => ?_, fun k j hkj b mb mj => ?_, fun k b mb => ?_, hH.gz, hH.zx, hH.nw⟩, fun s => ?_⟩, ⟨fun s => ?_, fun k => ?_, fun k hk => ?_⟩, hdef, hh⟩
      · show ObR g' w k (if k = 0 then .row e m xs 2 else .gone)
        by_cases hk : k = 0
        · subst hk
          exact ⟨h2, cs, L, h3, h4, .inl ⟨rfl, rfl, rfl⟩⟩
        · rw [if_neg hk]; exact ⟨if_neg hk, if_neg hk⟩
      · by_cases hk : k = 0
        · subst hk; exact h5
        · simp [g', hk]
      · obtain ⟨rfl, _⟩ := hOD k b mb
        obtain ⟨rfl, _⟩ := hOD j b mj
        exact absurd rfl hkj
      · obtain ⟨rfl, mb'⟩ := hOD k b mb
        exact ⟨.inl (Nat.le_trans hB (h6 b mb').2.1), (h6 b mb').2.2⟩
      · show SVR g' w (if s = t then .p false [.row 0] else keepS (st.sl s)) _
        by_cases hs' : s = t
        · subst hs'
          rw [if_pos rfl]
          obtain ⟨A, cap, hval⟩ := own_val h3
          exact ⟨_, rfl, rfl, by rw [hval]; rfl⟩
        · rw [if_neg hs']; exact (keepS_ok (g' := g') (hS s)).1
      · show svU _ (if s = t then .p false [.row 0] else keepS (st.sl s))
        by_cases hs' : s = t
        · rw [if_pos hs']; intro y my; simp at my; subst my; rfl
        · rw [if_neg hs']; exact (keepS_ok (g' := g') (hS s)).2
      · show obU _ (if k = 0 then .row e m xs 2 else .gone)
        split <;> trivial
      · exact if_neg hk
    · have e : thawV st t (.p ag cs) = st := by
        unfold thawV
        split
        · rename_i h
          simp only [SV.p.injEq] at h
          exact absurd ⟨_, _, _, h.1, h.2⟩ hc
        · rfl
      rw [e]
      exact ⟨U, ⟨g, hH, hS⟩, hU, hdef, hh⟩
  | _ => exact ⟨U, ⟨g, hH, hS⟩, hU, hdef, hh⟩
end
abbrev nw0 : NW := ⟨0⟩
section
variable {P : Program} {J : World → Prop} {JF : Nat → Prop} {W : Base} {U : Nat → Prop} {st : St} {w w' : World} {a : Act} {tt : Nat → Option TI} {g : Gh}
/-- how the world's premise bears the changes of a call -/
structure JOk (J : World → Prop) (JF : Nat → Prop) : Prop where
  below : ∀ (x : Nat → Prop) (w w' : World), J w → (∀ b, x b → JF b) → w'.os = w.os → w'.tape = w.tape → w'.output = w.output → w.heap.size ≤ w'.heap.size → (∀ k, k < w.heap.size → ¬ x k → w'.heap[k]? = w.heap[k]?) → J w'
  new : ∀ (w : World) b, J w → w.heap.size ≤ b → JF b
theorem slot_arg {args : List (Bool × List CT)} {vs : List Value} {N t o : Nat} (h : vs.length ≤ N) (v : Value) (hv : vs[t]? = some v) : (vs.toArray ++ Array.replicate (N - vs.toArray.size) undef).getD t undef = v := by
  have hl : t < vs.length := (List.getElem?_eq_some_iff.1 hv).1
  simp only [Array.getD_eq_getD_getElem?, Array.getElem?_append, List.size_toArray, hl, if_true, List.getElem?_toArray, hv, Option.getD_some]
theorem slot_und {vs : List Value} {N t : Nat} (ht : vs.length ≤ t) : (vs.toArray ++ Array.replicate (N - vs.toArray.size) undef).getD t undef = undef := by
  simp only [Array.getD_eq_getD_getElem?, Array.getElem?_append, List.size_toArray, show ¬ t < vs.length by omega, if_false, Array.getElem?_replicate]
  split <;> rfl
theorem fn_sound (htt : ∀ t i, tt t = some i → TOk P t i) (hJ : JOk J JF) (hmix : P.follows .mixedOrders = true) {hds : FuncId → Nat} {f : FuncId} {fn : Func} {c : Code} {args : List (Bool × List CT)} {res : List RT} (hf : P.funcs[f]? = some fn) (hname : (fn.name == "runtime.NumGoroutine") = false) (hb : fn.body = some c)
    (hok : codeOk tt hds false fn.ntmps c = true) (hlen : Nat.ble args.length fn.ntmps = true) (h : fnS tt (SC P J JF hds) fn.results.toList c args res) : Sound P J f args res := by
  letI : NW := nw0
  refine ⟨⟨fn, hf, hname, by rw [hb]; rfl⟩, fun w z vs hj hz hargs => ?_⟩
  have hlen' : args.length ≤ fn.ntmps := Nat.le_of_ble_eq_true hlen
  have hvl := hargs.len
  refine calls_of_wp hf hb ?_
  let W : Base := { w with z := z, x := fun _ => False, hv := none }
  let g0 : Gh := ⟨fun _ => undef, fun _ => [], fun _ => [], z⟩
  have hg0 : ∀ b, g0.own b → z b := fun b hb => by
    rcases hb with ⟨k, m⟩ | h
    · simp [g0] at m
    · exact h
  have hI0 : Inv W (fun _ => False) (argSt args) { tmps := vs.toArray ++ Array.replicate (fn.ntmps - vs.toArray.size) undef, defers := [] } w := by
    refine ⟨⟨g0, ⟨⟨rfl, rfl, rfl, Nat.le_refl _, fun _ _ _ => rfl⟩, fun k => ⟨rfl, rfl⟩, fun k => by simp [g0], fun k j _ b m => by simp [g0] at m, fun k b m => by simp [g0] at m, rfl, fun b hb => ⟨hz b hb, fun h => h⟩, fun _ _ => Nat.zero_le _⟩, fun t => ?_⟩, ⟨fun t => ?_, fun k => trivial, fun k _ => rfl⟩, rfl, fun v hv => by simp [W] at hv⟩
    · show SVR g0 w (match args[t]? with | some x => .p x.1 (x.2.map .c) | none => .und) _
      cases ht : args[t]? with
      | none => exact slot_und (by have : args.length ≤ t := by simpa using ht
                                   omega)
      | some x =>
        obtain ⟨v, hv, hr⟩ := hargs.at ht
        show SVR g0 w (.p x.1 (x.2.map .c)) ((vs.toArray ++ Array.replicate (fn.ntmps - vs.toArray.size) undef).getD t undef)
        rw [slot_arg (args := args) (o := 0) (by omega) v hv]
        exact arg_SVR hg0 hr
    · show svU _ (match args[t]? with | some x => .p x.1 (x.2.map .c) | none => .und)
      split
      · exact svU_cs true _
      · trivial
  have hM : MOk P J JF W tt := ⟨htt, fun w' hb => hJ.below (fun _ => False) w w' hj (fun _ h => h.elim) hb.os hb.tape hb.output hb.size (fun k hk hx => hb.block k hk hx), fun b hb => hJ.new w b hj hb, fun b h => h.elim⟩
  refine swp_sound (W := W) hM hmix (.inl rfl) c hok (retK tt fn.results.toList fun _ r _ => wkR r res) _ ?_ _ (argSt args) _ w hI0 (fun _ _ h => h) (by simp; omega) h
  intro ex U' st' a' w' hI' _ _ hK
  have fin : (match resOf tt st' fn.results.toList with | some x => x.2.Nodup ∧ wkR x.1 res | none => False) → a'.defers = [] ∧ ∃ v, (results fn a'.tmps).run P w' = .ok v w' ∧ ∃ u n, Ending.returned v = .returned u ∧ ResR w' w.heap.size n res u ∧ (∀ b, z b → n b) ∧ Below w.heap.size w w' := fun hK => by
    split at hK
    · rename_i x hx
      obtain ⟨r, ks⟩ := x
      obtain ⟨hnd, hw⟩ := hK
      obtain ⟨g, hH, hS⟩ := hI'.ex
      have hBg : ∀ k ∈ ks, ∀ b ∈ g.O k ++ g.D k, W.heap.size ≤ b := fun k _ b mb => (hH.plain k b mb).1.resolve_right fun h => h
      obtain ⟨v, m, e1, e2, _, _, e4⟩ := ret_ok htt hI' hH hS hx hnd hw hBg (fun _ => False) (fun _ h => h.elim)
      have hbel := hH.below
      exact ⟨hI'.defers, v, e1, v, m, rfl, e2, fun b hb => e4 b (fun mb => by obtain ⟨k, hk, mk⟩ := mem_F mb; have := hBg k hk b mk; have := hz b hb; have e : W.heap.size = w.heap.size := rfl; omega) (.inl (by rw [hH.gz]; exact hb)), hbel.os, hbel.tape, hbel.output, hbel.size, fun k hk => hbel.block k hk fun h => h⟩
    · exact hK.elim
  cases ex with
  | normal => exact fin hK
  | exit id => exact hK.elim
  | ret => exact fin hK
theorem fn_soundN (htt : ∀ t i, tt t = some i → TOk P t i) (hJ : JOk J JF) (hmix : P.follows .mixedOrders = true) {hds : FuncId → Nat} {f : FuncId} {fn : Func} {c : Code} {args : List (Bool × List CT)} {res : List RT} (hf : P.funcs[f]? = some fn) (hname : (fn.name == "runtime.NumGoroutine") = false) (hb : fn.body = some c)
    (hok : codeOk tt hds false fn.ntmps c = true) (hlen : Nat.ble args.length fn.ntmps = true) (t0 : Nat) (h : fnN tt (SC P J JF hds) fn.results.toList t0 c args res) : Sound P J f args res := by
  refine ⟨⟨fn, hf, hname, by rw [hb]; rfl⟩, fun w z vs hj hz hargs => ?_⟩
  letI : NW := ⟨w.heap.size⟩
  have hlen' : args.length ≤ fn.ntmps := Nat.le_of_ble_eq_true hlen
  have hvl := hargs.len
  refine calls_of_wp hf hb ?_
  let W : Base := { w with z := z, x := fun _ => False, hv := none }
  let g0 : Gh := ⟨fun _ => undef, fun _ => [], fun _ => [], z⟩
  have hg0 : ∀ b, g0.own b → z b := fun b hb => by
    rcases hb with ⟨k, m⟩ | h
    · simp [g0] at m
    · exact h
  have hI0 : Inv W (fun _ => False) (argSt args) { tmps := vs.toArray ++ Array.replicate (fn.ntmps - vs.toArray.size) undef, defers := [] } w := by
    refine ⟨⟨g0, ⟨⟨rfl, rfl, rfl, Nat.le_refl _, fun _ _ _ => rfl⟩, fun k => ⟨rfl, rfl⟩, fun k => by simp [g0], fun k j _ b m => by simp [g0] at m, fun k b m => by simp [g0] at m, rfl, fun b hb => ⟨hz b hb, fun h => h⟩, fun b hb => hb.elim (fun h => h) fun h => h.elim⟩, fun t => ?_⟩, ⟨fun t => ?_, fun k => trivial, fun k _ => rfl⟩, rfl, fun v hv => by simp [W] at hv⟩
    · show SVR g0 w (match args[t]? with | some x => .p x.1 (x.2.map .c) | none => .und) _
      cases ht : args[t]? with
      | none => exact slot_und (by have : args.length ≤ t := by simpa using ht
                                   omega)
      | some x =>
        obtain ⟨v, hv, hr⟩ := hargs.at ht
        show SVR g0 w (.p x.1 (x.2.map .c)) ((vs.toArray ++ Array.replicate (fn.ntmps - vs.toArray.size) undef).getD t undef)
        rw [slot_arg (args := args) (o := 0) (by omega) v hv]
        exact arg_SVR hg0 hr
    · show svU _ (match args[t]? with | some x => .p x.1 (x.2.map .c) | none => .und)
      split
      · exact svU_cs true _
      · trivial
  have hM : MOk P J JF W tt := ⟨htt, fun w' hb => hJ.below (fun _ => False) w w' hj (fun _ h => h.elim) hb.os hb.tape hb.output hb.size (fun k hk hx => hb.block k hk hx), fun b hb => hJ.new w b hj hb, fun b h => h.elim⟩
  refine swp_sound (W := W) hM hmix (.inl rfl) c hok (retN t0 (retK tt fn.results.toList fun _ r _ => wkR r res)) _ ?_ _ (argSt args) _ w hI0 (fun _ _ h => h) (by simp; omega) h
  intro ex U1 st1 a' w' hI1 _ _ hK
  obtain ⟨U', hI'⟩ := thaw_inv (Nat.le_refl _) t0 hI1
  generalize hst : st1.thaw t0 = st' at hI'
  simp only [retN, hst] at hK
  have fin : (match resOf tt st' fn.results.toList with | some x => x.2.Nodup ∧ wkR x.1 res | none => False) → a'.defers = [] ∧ ∃ v, (results fn a'.tmps).run P w' = .ok v w' ∧ ∃ u n, Ending.returned v = .returned u ∧ ResR w' w.heap.size n res u ∧ (∀ b, z b → n b) ∧ Below w.heap.size w w' := fun hK => by
    split at hK
    · rename_i x hx
      obtain ⟨r, ks⟩ := x
      obtain ⟨hnd, hw⟩ := hK
      obtain ⟨g, hH, hS⟩ := hI'.ex
      have hBg : ∀ k ∈ ks, ∀ b ∈ g.O k ++ g.D k, W.heap.size ≤ b := fun k _ b mb => (hH.plain k b mb).1.resolve_right fun h => h
      obtain ⟨v, m, e1, e2, _, _, e4⟩ := ret_ok htt hI' hH hS hx hnd hw hBg (fun _ => False) (fun _ h => h.elim)
      have hbel := hH.below
      exact ⟨hI'.defers, v, e1, v, m, rfl, e2, fun b hb => e4 b (fun mb => by obtain ⟨k, hk, mk⟩ := mem_F mb; have := hBg k hk b mk; have := hz b hb; have e : W.heap.size = w.heap.size := rfl; omega) (.inl (by rw [hH.gz]; exact hb)), hbel.os, hbel.tape, hbel.output, hbel.size, fun k hk => hbel.block k hk fun h => h⟩
    · exact hK.elim
  cases ex with
  | normal => exact fin hK
  | exit id => exact hK.elim
  | ret => exact fin hK
theorem fn_soundB (htt : ∀ t i, tt t = some i → TOk P t i) (hJ : JOk J JF) (hmix : P.follows .mixedOrders = true) {hds : FuncId → Nat} {f : FuncId} {fn : Func} {c : Code} {args : List (Bool × List CT)} {nb : NB} (hf : P.funcs[f]? = some fn) (hname : (fn.name == "runtime.NumGoroutine") = false) (hb : fn.body = some c)
    (hok : codeOk tt hds false fn.ntmps c = true) (hlen : Nat.ble args.length fn.ntmps = true) (h : fnB tt (SC P J JF hds) fn.results.toList c args nb) : SoundB P J f args nb := by
  letI : NW := nw0
  refine ⟨⟨fn, hf, hname, by rw [hb]; rfl⟩, fun w z vs hj hz hargs => ?_⟩
  have hlen' : args.length ≤ fn.ntmps := Nat.le_of_ble_eq_true hlen
  have hvl := hargs.len
  refine calls_of_wp hf hb ?_
  let W : Base := { w with z := z, x := fun _ => False, hv := none }
  let g0 : Gh := ⟨fun _ => undef, fun _ => [], fun _ => [], z⟩
  have hg0 : ∀ b, g0.own b → z b := fun b hb => by
    rcases hb with ⟨k, m⟩ | h
    · simp [g0] at m
    · exact h
  have hI0 : Inv W (fun _ => False) (argSt args) { tmps := vs.toArray ++ Array.replicate (fn.ntmps - vs.toArray.size) undef, defers := [] } w := by
    refine ⟨⟨g0, ⟨⟨rfl, rfl, rfl, Nat.le_refl _, fun _ _ _ => rfl⟩, fun k => ⟨rfl, rfl⟩, fun k => by simp [g0], fun k j _ b m => by simp [g0] at m, fun k b m => by simp [g0] at m, rfl, fun b hb => ⟨hz b hb, fun h => h⟩, fun _ _ => Nat.zero_le _⟩, fun t => ?_⟩, ⟨fun t => ?_, fun k => trivial, fun k _ => rfl⟩, rfl, fun v hv => by simp [W] at hv⟩
    · show SVR g0 w (match args[t]? with | some x => .p x.1 (x.2.map .c) | none => .und) _
      cases ht : args[t]? with
      | none => exact slot_und (by have : args.length ≤ t := by simpa using ht
                                   omega)
      | some x =>
        obtain ⟨v, hv, hr⟩ := hargs.at ht
        show SVR g0 w (.p x.1 (x.2.map .c)) ((vs.toArray ++ Array.replicate (fn.ntmps - vs.toArray.size) undef).getD t undef)
        rw [slot_arg (args := args) (o := 0) (by omega) v hv]
        exact arg_SVR hg0 hr
    · show svU _ (match args[t]? with | some x => .p x.1 (x.2.map .c) | none => .und)
      split
      · exact svU_cs true _
      · trivial
  have hM : MOk P J JF W tt := ⟨htt, fun w' hb => hJ.below (fun _ => False) w w' hj (fun _ h => h.elim) hb.os hb.tape hb.output hb.size (fun k hk hx => hb.block k hk hx), fun b hb => hJ.new w b hj hb, fun b h => h.elim⟩
  refine swp_sound (W := W) hM hmix (.inl rfl) c hok (retB fn.results.toList nb) _ ?_ _ (argSt args) _ w hI0 (fun _ _ h => h) (by simp; omega) h
  intro ex U' st' a' w' hI' _ _ hK
  have fin : newBack st' fn.results.toList nb → a'.defers = [] ∧ ∃ v, (results fn a'.tmps).run P w' = .ok v w' ∧ ∃ (b : Nat) (n : Nat → Prop), Ending.returned v = .returned (nbVal b nb) ∧ w.heap.size ≤ b ∧ nbR w' n b nb ∧ n b ∧ (∀ x, z x → n x) ∧ Below w.heap.size w w' := fun hK => by
    unfold newBack at hK
    split at hK
    · rename_i s hrs
      have er : fn.results = #[.tmp s] := by
        have := congrArg List.toArray hrs
        simpa using this
      obtain ⟨g, hH, hS⟩ := hI'.ex
      have hs := hS s
      have hbel := hH.below
      cases nb with
      | box t cs =>
        obtain ⟨k, ds, k1, k2, k3, k4⟩ := hK
        rw [k1] at hs
        obtain ⟨b, b1, b2⟩ := hs
        have hob := hH.obs k
        rw [k2] at hob
        obtain ⟨b', us, o1, o2, o3, o4, o5⟩ := hob
        have hbb : b' = b := by rw [b1] at o1; simpa using o1.symm
        subst hbb
        obtain ⟨L, hL, hL2⟩ := avArgs_ok hH k4 o5
        have hno := hL2 fun y my => by
          have := List.all_eq_true.1 k3 y my
          cases y <;> simp [avNoRow] at this <;> trivial
        refine ⟨hI'.defers, _, ?_, b', fun x => g.own x, rfl, (hH.plain k b' (by simp [o2])).1.resolve_right fun h => h, ⟨us, L, o4, hL, hno⟩, .inl ⟨k, by simp [o2]⟩, fun x hx => .inr (by rw [hH.gz]; exact hx), hbel.os, hbel.tape, hbel.output, hbel.size, fun k hk => hbel.block k hk fun h => h⟩
        rw [results_eq, er]
        simp [resRun, b2, nbVal]
      | map kk vk kv =>
        obtain ⟨k, k1, k2⟩ := hK
        rw [k1] at hs
        obtain ⟨x, hx, hx3⟩ := hs
        simp only [List.cons.injEq, and_true] at hx
        subst hx
        obtain ⟨hx2, _⟩ := hx3
        have hob := hH.obs k
        rw [k2] at hob
        obtain ⟨b, es, c, o1, o2, o3, o4, o5⟩ := hob
        refine ⟨hI'.defers, _, ?_, b, fun x => g.own x, rfl, (hH.plain k b (by simp [o2])).1.resolve_right fun h => h, ⟨es, c, o4, o5⟩, .inl ⟨k, by simp [o2]⟩, fun x hx => .inr (by rw [hH.gz]; exact hx), hbel.os, hbel.tape, hbel.output, hbel.size, fun k hk => hbel.block k hk fun h => h⟩
        rw [results_eq, er]
        simp [resRun, hx2, o1, nbVal]
    · exact hK.elim
  cases ex with
  | normal => exact fin hK
  | exit id => exact hK.elim
  | ret => exact fin hK
end
instance nwD : NW := nw0
end Go.Proofs.YtlkgkkacnoaeaaaGreatDoor

namespace Go.Proofs.YtlkgkkacnoaeaaaGreatDoor
open Go.RowKit
def all2B {α β : Type} (f : α → β → Bool) : List α → List β → Bool
  | [], [] => true
  | a :: l, b :: r => f a b && all2B f l r
  | _, _ => false
theorem all2B_ok {α β : Type} {f : α → β → Bool} {R : α → β → Prop} (h : ∀ a b, f a b = true → R a b) : ∀ {l : List α} {r : List β}, all2B f l r = true → All2 R l r
  | [], [], _ => trivial
  | a :: l, b :: r, hh => by
    simp only [all2B, Bool.and_eq_true] at hh
    exact ⟨h a b hh.1, all2B_ok h hh.2⟩
  | [], _ :: _, hh => by simp [all2B] at hh
  | _ :: _, [], hh => by simp [all2B] at hh
def fieldB (P : Program) (fi : FI) (f : Field) : Bool :=
  f.offset == fi.off && !(fi.size == 0) && match P.info? f.type, P.underlying f.type with
    | some j, some d => j.size == fi.size && (aggD d == fi.agg)
    | _, _ => false
def nilB : Value → Bool
  | .slice none 0 0 => true
  | _ => false
def eqFB (P : Program) : List PK → List Field → Nat → Bool
  | [], [], _ => true
  | k :: ks, f :: fs, n => (f.name != "_") && (f.offset == n) && (match P.underlying f.type with | some d => kindP k d | none => false) && eqFB P ks fs (n + 1)
  | _, _, _ => false
theorem eqFB_ok {P : Program} : ∀ {ks : List PK} {fs : List Field} {n : Nat}, eqFB P ks fs n = true → EqF P ks fs n
  | [], [], _, _ => trivial
  | k :: ks, f :: fs, n, h => by
    simp only [eqFB, Bool.and_eq_true, bne_iff_ne, beq_iff_eq] at h
    obtain ⟨⟨⟨h1, h2⟩, h3⟩, h4⟩ := h
    split at h3
    · rename_i d hd; exact ⟨h1, h2, ⟨d, hd, h3⟩, eqFB_ok h4⟩
    · simp at h3
  | [], _ :: _, _, h => by simp [eqFB] at h
  | _ :: _, [], _, h => by simp [eqFB] at h
def isStructD : Option TypeDesc → Bool
  | some (.struct _) => true
  | _ => false
def eqsB (P : Program) (t : TypeId) (ks : List PK) : Bool :=
  Nat.ble 4000 t && isStructD (P.underlying (t - 4000)) && !(P.stoodInHeld (t - 4000)) && !(P.eqGuardType P.depth (t - 4000)) && eqFB P ks (P.fieldsOf (t - 4000)).toList 0
theorem eqsB_ok {P : Program} {t : TypeId} {ks : List PK} (h : eqsB P t ks = true) : TOk P t (.eqs ks) := by
  simp only [eqsB, Bool.and_eq_true, Bool.not_eq_true'] at h
  obtain ⟨⟨⟨⟨h1, h2⟩, h3⟩, h4⟩, h5⟩ := h
  refine ⟨t - 4000, ?_, ?_, h3, h4, eqFB_ok h5⟩
  · have : 4000 ≤ t := Nat.le_of_ble_eq_true h1
    exact (Nat.sub_add_cancel this).symm
  · unfold isStructD at h2
    split at h2
    · rename_i fs e
      unfold Program.fieldsOf
      rw [e]
    · simp at h2
def tOk (P : Program) (t : TypeId) (ti : TI) : Bool :=
  match ti with
  | .eqs ks => eqsB P t ks
  | _ =>
  match P.underlying t, P.info? t with
  | some d, some i => match ti with
    | .atom z => kindB d z && i.size == 1 && match i.zero with | some zv => constB z zv | none => false
    | .strct fs n z => match d with
      | .struct fields => i.size == n && (match i.zero with | some (.agg zvs) => all2B constB z zvs.toList | _ => false) && all2B (fieldB P) fs fields.toList
      | _ => false
    | .slice e m bytes z => match d with
      | .slice e' => e == e' && Nat.blt 0 m && Nat.ble bytes 131072 && (match P.info? e with
          | some ie => ie.size == m && ie.bytes == bytes && (match ie.zero with | some zv => all2B constB z zv.cells.toList | none => false)
          | none => false) && z.length == m && i.size == 1 && (match i.zero with | some zv => nilB zv | none => false)
      | _ => false
    | .map kk vk => match d with
      | .map kt et => (match P.underlying kt with | some dk => kindP kk dk | none => false) && (match P.underlying et with | some dv => kindP vk dv | none => false) && (match P.info? et with | some ie => (match ie.zero with | some zv => constB (zeroPK vk) zv | none => false) | none => false)
      | _ => false
    | .ifc => match d with
      | .interface _ => true
      | _ => false
    | .eqs _ => false
  | _, _ => false
theorem nilB_ok {v : Value} (h : nilB v = true) : v = .slice none 0 0 := by
  unfold nilB at h
  split at h
  · rfl
  · simp at h
theorem tOk_ok {P : Program} {t : TypeId} {ti : TI} (h : tOk P t ti = true) : TOk P t ti := by
  unfold tOk at h
  split at h
  · exact eqsB_ok h
  split at h
  · rename_i d i hd hi
    cases ti with
    | eqs ks => simp at h
    | ifc =>
      simp only at h
      split at h
      · exact ⟨_, hd⟩
      · simp at h
    | map kk vk =>
      simp only at h
      split at h
      · rename_i kt et
        simp only [Bool.and_eq_true] at h
        obtain ⟨⟨h1, h2⟩, h3⟩ := h
        split at h1
        · rename_i dk hdk
          split at h2
          · rename_i dv hdv
            split at h3
            · rename_i ie hie
              split at h3
              · rename_i zv hz
                exact ⟨kt, et, dk, dv, ie, zv, hd, hdk, h1, hdv, h2, hie, hz, h3⟩
              · simp at h3
            · simp at h3
          · simp at h2
        · simp at h1
      · simp at h
    | atom z =>
      simp only [Bool.and_eq_true, beq_iff_eq] at h
      obtain ⟨⟨h1, h2⟩, h3⟩ := h
      split at h3
      · rename_i zv hz; exact ⟨d, zv, i, hd, h1, hi, hz, h2, h3⟩
      · simp at h3
    | strct fs n z =>
      simp only at h
      split at h
      · rename_i fields
        simp only [Bool.and_eq_true, beq_iff_eq] at h
        obtain ⟨⟨h1, h2⟩, h3⟩ := h
        split at h2
        · rename_i zvs hz
          refine ⟨fields, i, zvs, hd, hi, h1, hz, all2B_ok (fun _ _ h => h) h2, all2B_ok (fun fi f hf => ?_) h3⟩
          unfold fieldB at hf
          simp only [Bool.and_eq_true, beq_iff_eq, Bool.not_eq_true', beq_eq_false_iff_ne] at hf
          obtain ⟨⟨f1, f2⟩, f3⟩ := hf
          split at f3
          · rename_i j d' hj hd'
            simp only [Bool.and_eq_true, beq_iff_eq] at f3
            exact ⟨f1, f2, j, d', hj, f3.1, hd', f3.2⟩
          · simp at f3
        · simp at h2
      · simp at h
    | slice e m bytes z =>
      simp only at h
      split at h
      · rename_i e'
        simp only [Bool.and_eq_true, beq_iff_eq] at h
        obtain ⟨⟨⟨⟨⟨⟨h1, h2⟩, h3⟩, h4⟩, h5⟩, h6⟩, h7⟩ := h
        subst h1
        split at h4
        · rename_i ie hie
          simp only [Bool.and_eq_true, beq_iff_eq] at h4
          obtain ⟨⟨k1, k2⟩, k3⟩ := h4
          split at k3
          · rename_i zv hz
            split at h7
            · rename_i zv' hz'
              exact ⟨hd, Nat.le_of_ble_eq_true h2, Nat.le_of_ble_eq_true h3, ⟨ie, zv, hie, k1, k2, hz, all2B_ok (fun _ _ h => h) k3, h5⟩, i, hi, h6, by rw [hz', nilB_ok h7]⟩
            · simp at h7
          · simp at k3
        · simp at h4
      · simp at h
  · simp at h
def look : List (Nat × TI) → Nat → Option TI
  | [], _ => none
  | p :: r, t => if p.1 = t then some p.2 else look r t
theorem tts_ok {P : Program} : ∀ (l : List (Nat × TI)), (l.all fun p => tOk P p.1 p.2) = true → ∀ t i, look l t = some i → TOk P t i
  | [], _, t, i, h => by simp [look] at h
  | p :: r, ha, t, i, h => by
    simp only [List.all_cons, Bool.and_eq_true] at ha
    simp only [look] at h
    split at h
    · rename_i e
      simp only [Option.some.injEq] at h
      subst h e
      exact tOk_ok ha.1
    · exact tts_ok r ha.2 t i h
end Go.Proofs.YtlkgkkacnoaeaaaGreatDoor

namespace Go.Proofs.YtlkgkkacnoaeaaaGreatDoor
open Go.RowKit
/-- each listed variable holds what its test says -/
def LaidJ (P : Program) (L : List (String × (Array Value → Prop))) (w : World) : Prop := ∀ x ∈ L, ∃ cs, w.var? P x.1 = some cs ∧ x.2 cs
def LaidF (P : Program) (L : List (String × (Array Value → Prop))) (b : Nat) : Prop := ∀ x ∈ L, ¬ P.globalNamed x.1 = some b
theorem laid_ok (P : Program) (L : List (String × (Array Value → Prop))) : JOk (LaidJ P L) (LaidF P L) where
  below := fun x w w' hj hx _ _ _ hs hb y my => by
    obtain ⟨cs, h1, h2⟩ := hj y my
    refine ⟨cs, ?_, h2⟩
    unfold World.var? at h1 ⊢
    obtain ⟨g, hg, h1⟩ := Option.bind_eq_some_iff.1 h1
    rw [hg, Option.bind_some]
    have hlt : g < w.heap.size := by
      rcases Nat.lt_or_ge g w.heap.size with h | h
      · exact h
      · rw [Array.getElem?_eq_none h] at h1; simp at h1
    rw [hb g hlt (fun h => hx g h y my hg)]
    exact h1
  new := fun w b hj hb y my hg => by
    obtain ⟨cs, h1, _⟩ := hj y my
    unfold World.var? at h1
    rw [hg, Option.bind_some, Array.getElem?_eq_none hb] at h1
    simp at h1
theorem jok_below {J : World → Prop} {JF : Nat → Prop} (h : JOk J JF) {w w' : World} (hj : J w) (hb : Below w.heap.size w w') : J w' :=
  h.below (fun _ => False) w w' hj (fun _ h => h.elim) hb.os hb.tape hb.output hb.size fun k hk _ => hb.block k hk
theorem resv_one {w : World} {B : Nat} {n : Nat → Prop} {ct : CT} {v : Value} (h : OC w B n (false, ct) v []) : ResR w B n [(false, [(false, ct)])] v :=
  ⟨[v], [], ⟨v, [], [], [], rfl, rfl, .inr ⟨rfl, _, rfl, h⟩, rfl, rfl⟩, Own.nil _ _, by simp⟩
theorem resv_two {w : World} {B : Nat} {n : Nat → Prop} {c1 c2 : CT} {v1 v2 : Value} (h1 : OC w B n (false, c1) v1 []) (h2 : OC w B n (false, c2) v2 []) : ResR w B n [(false, [(false, c1)]), (false, [(false, c2)])] (.tuple #[v1, v2]) :=
  ⟨[v1, v2], [], ⟨v1, [v2], [], [], rfl, rfl, .inr ⟨rfl, _, rfl, h1⟩, v2, [], [], [], rfl, rfl, .inr ⟨rfl, _, rfl, h2⟩, rfl, rfl⟩, Own.nil _ _, by simp⟩
theorem arg_one {w : World} {z : Nat → Prop} {c : CT} {v : Value} (h : ArgR w z (false, [c]) v) : ∃ L, RC w c v L := by
  rcases h with ⟨h, _⟩ | ⟨_, ct, L, h, hr, _⟩
  · simp at h
  · simp only [List.cons.injEq, and_true] at h
    subst h
    exact ⟨L, hr⟩
theorem args_one {w : World} {z : Nat → Prop} {c : CT} {vs : List Value} (h : All2 (ArgR w z) [(false, [c])] vs) : ∃ v L, vs = [v] ∧ RC w c v L := by
  cases vs with
  | nil => exact h.elim
  | cons v r =>
    cases r with
    | nil => obtain ⟨L, hr⟩ := arg_one h.1; exact ⟨v, L, rfl, hr⟩
    | cons _ _ => exact h.2.elim
theorem args_two {w : World} {z : Nat → Prop} {c d : CT} {vs : List Value} (h : All2 (ArgR w z) [(false, [c]), (false, [d])] vs) : ∃ v u L M, vs = [v, u] ∧ RC w c v L ∧ RC w d u M := by
  cases vs with
  | nil => exact h.elim
  | cons v r =>
    obtain ⟨u, M, rfl, hu⟩ := args_one h.2
    obtain ⟨L, hr⟩ := arg_one h.1
    exact ⟨v, u, L, M, rfl, hr, hu⟩
end Go.Proofs.YtlkgkkacnoaeaaaGreatDoor

namespace Go.Proofs.YtlkgkkacnoaeaaaGreatDoor
open Go.RowKit
def ttL : List (Nat × TI) := [
  (2, .atom (.c (.int .i64 0))),
  (3, .atom (.c (.int .i64 0))),
  (4, .atom (.c (.bool false))),
  (5, .atom (.c (.int .u8 0))),
  (9, .atom (.c (.str ⟨#[]⟩))),
  (12, .atom (.c (.int .u64 0))),
  (14, .strct [⟨0, 1, false⟩, ⟨1, 1, false⟩] 2 [.c (.str ⟨#[]⟩), .c (.int .u64 0)]),
  (20, .ifc),
  (21, .atom (.c (.int .i32 0))),
  (22, .slice 42 4 72 [.c (.str ⟨#[]⟩), .c (.int .i64 0), .nil 112 5, .nil 115 3]),
  (23, .slice 46 2 40 [.c (.str ⟨#[]⟩), .nil 9 1]),
  (27, .slice 52 4 72 [.c (.str ⟨#[]⟩), .c (.int .i64 0), .nil 99 5, .nil 62 3]),
  (29, .slice 57 2 40 [.c (.str ⟨#[]⟩), .nil 9 1]),
  (39, .slice 112 5 80 [.c (.int .i64 0), .c (.str ⟨#[]⟩), .nil 9 1, .c (.str ⟨#[]⟩), .c (.str ⟨#[]⟩)]),
  (40, .slice 115 3 48 [.c (.int .i64 0), .c (.str ⟨#[]⟩), .nil 9 1]),
  (42, .strct [⟨0, 1, false⟩, ⟨1, 1, false⟩, ⟨2, 1, false⟩, ⟨3, 1, false⟩] 4 [.c (.str ⟨#[]⟩), .c (.int .i64 0), .nil 112 5, .nil 115 3]),
  (44, .slice 9 1 16 [.c (.str ⟨#[]⟩)]),
  (46, .strct [⟨0, 1, false⟩, ⟨1, 1, false⟩] 2 [.c (.str ⟨#[]⟩), .nil 9 1]),
  (47, .slice 56 3 64 [.c (.str ⟨#[]⟩), .nil 57 2, .nil 119 2]),
  (49, .slice 99 5 80 [.c (.int .i64 0), .c (.str ⟨#[]⟩), .nil 9 1, .c (.str ⟨#[]⟩), .c (.str ⟨#[]⟩)]),
  (50, .slice 62 3 48 [.c (.int .i64 0), .c (.str ⟨#[]⟩), .nil 9 1]),
  (52, .strct [⟨0, 1, false⟩, ⟨1, 1, false⟩, ⟨2, 1, false⟩, ⟨3, 1, false⟩] 4 [.c (.str ⟨#[]⟩), .c (.int .i64 0), .nil 99 5, .nil 62 3]),
  (54, .slice 119 2 32 [.c (.str ⟨#[]⟩), .c (.str ⟨#[]⟩)]),
  (56, .strct [⟨0, 1, false⟩, ⟨1, 1, false⟩, ⟨2, 1, false⟩] 3 [.c (.str ⟨#[]⟩), .nil 57 2, .nil 119 2]),
  (57, .strct [⟨0, 1, false⟩, ⟨1, 1, false⟩] 2 [.c (.str ⟨#[]⟩), .nil 9 1]),
  (60, .strct [⟨0, 1, false⟩, ⟨1, 1, false⟩] 2 [.c (.str ⟨#[]⟩), .nil 9 1]),
  (62, .strct [⟨0, 1, false⟩, ⟨1, 2, true⟩] 3 [.c (.int .i64 0), .c (.str ⟨#[]⟩), .nil 9 1]),
  (72, .slice 76 2 48 [.nil 57 2, .nil 119 2]),
  (76, .strct [⟨0, 1, false⟩, ⟨1, 1, false⟩] 2 [.nil 57 2, .nil 119 2]),
  (99, .strct [⟨0, 1, false⟩, ⟨1, 2, true⟩, ⟨3, 1, false⟩, ⟨4, 1, false⟩] 5 [.c (.int .i64 0), .c (.str ⟨#[]⟩), .nil 9 1, .c (.str ⟨#[]⟩), .c (.str ⟨#[]⟩)]),
  (103, .map .str .bool),
  (108, .slice 5 1 1 [.c (.int .u8 0)]),
  (110, .strct [⟨0, 1, false⟩, ⟨1, 1, false⟩] 2 [.c (.str ⟨#[]⟩), .nil 9 1]),
  (112, .strct [⟨0, 1, false⟩, ⟨1, 2, true⟩, ⟨3, 1, false⟩, ⟨4, 1, false⟩] 5 [.c (.int .i64 0), .c (.str ⟨#[]⟩), .nil 9 1, .c (.str ⟨#[]⟩), .c (.str ⟨#[]⟩)]),
  (115, .strct [⟨0, 1, false⟩, ⟨1, 2, true⟩] 3 [.c (.int .i64 0), .c (.str ⟨#[]⟩), .nil 9 1]),
  (119, .strct [⟨0, 1, false⟩, ⟨1, 1, false⟩] 2 [.c (.str ⟨#[]⟩), .c (.str ⟨#[]⟩)]),
  (148, .ifc),
  (149, .ifc),
  (155, .atom (.c (.int .u64 0))),
  (166, .atom (.c (.int .u32 0))),
  (168, .atom (.c (.int .u64 0))),
  (195, .strct [⟨0, 1, false⟩] 1 [.c (.str ⟨#[]⟩)])]
def tt (t : Nat) : Option TI := look ttL t
theorem htt : ∀ t i, tt t = some i → TOk Tryz.prog t i := tts_ok ttL (by kernel_rfl)
theorem hmix : Tryz.prog.follows .mixedOrders = true := by kernel_rfl
def tabL : List (String × (Array Value → Prop)) := [("internal/strconv.uint64pow10", fun cs => cs = (Lib.pow10Tab.map fun z => Value.int .u64 z).toArray), ("strconv.ErrSyntax", fun cs => ∃ tp p, cs = #[.iface tp p])]
def J0 : World → Prop := LaidJ Tryz.prog tabL
def JF0 : Nat → Prop := LaidF Tryz.prog tabL
theorem hJ0 : JOk J0 JF0 := laid_ok _ _
theorem j0_pow (w : World) (h : J0 w) : Lib.TabIs Tryz.prog w "internal/strconv.uint64pow10" .u64 Lib.pow10Tab := by
  obtain ⟨cs, h1, h2⟩ := h _ (List.mem_cons_self ..)
  rw [h2] at h1
  exact h1
theorem j0_err (w : World) (h : J0 w) : ∃ tp p, w.var? Tryz.prog "strconv.ErrSyntax" = some #[.iface tp p] := by
  obtain ⟨cs, h1, tp, p, h2⟩ := h ("strconv.ErrSyntax", fun cs => ∃ tp p, cs = #[.iface tp p]) (by simp [tabL])
  rw [h2] at h1
  exact ⟨tp, p, h1⟩
def hdL : List (Nat × Nat) := [(20, 2), (30, 2), (38, 2), (42, 2), (43, 2), (53, 2), (81, 3), (146, 1)]
def hlook : List (Nat × Nat) → Nat → Nat
  | [], _ => 0
  | p :: r, f => match Nat.beq p.1 f with | true => p.2 | false => hlook r f
def hds (f : FuncId) : Nat := hlook hdL f
theorem hd_7 : (SC Tryz.prog J0 JF0 hds).hd 7 = 0 := _root_.id (by kernel_rfl)
theorem hd_10 : (SC Tryz.prog J0 JF0 hds).hd 10 = 0 := _root_.id (by kernel_rfl)
theorem hd_13 : (SC Tryz.prog J0 JF0 hds).hd 13 = 0 := _root_.id (by kernel_rfl)
theorem hd_14 : (SC Tryz.prog J0 JF0 hds).hd 14 = 0 := _root_.id (by kernel_rfl)
theorem hd_20 : (SC Tryz.prog J0 JF0 hds).hd 20 = 2 := _root_.id (by kernel_rfl)
theorem hd_21 : (SC Tryz.prog J0 JF0 hds).hd 21 = 0 := _root_.id (by kernel_rfl)
theorem hd_22 : (SC Tryz.prog J0 JF0 hds).hd 22 = 0 := _root_.id (by kernel_rfl)
theorem hd_23 : (SC Tryz.prog J0 JF0 hds).hd 23 = 0 := _root_.id (by kernel_rfl)
theorem hd_24 : (SC Tryz.prog J0 JF0 hds).hd 24 = 0 := _root_.id (by kernel_rfl)
theorem hd_25 : (SC Tryz.prog J0 JF0 hds).hd 25 = 0 := _root_.id (by kernel_rfl)
theorem hd_28 : (SC Tryz.prog J0 JF0 hds).hd 28 = 0 := _root_.id (by kernel_rfl)
theorem hd_29 : (SC Tryz.prog J0 JF0 hds).hd 29 = 0 := _root_.id (by kernel_rfl)
theorem hd_30 : (SC Tryz.prog J0 JF0 hds).hd 30 = 2 := _root_.id (by kernel_rfl)
theorem hd_31 : (SC Tryz.prog J0 JF0 hds).hd 31 = 0 := _root_.id (by kernel_rfl)
theorem hd_32 : (SC Tryz.prog J0 JF0 hds).hd 32 = 0 := _root_.id (by kernel_rfl)
theorem hd_35 : (SC Tryz.prog J0 JF0 hds).hd 35 = 0 := _root_.id (by kernel_rfl)
theorem hd_36 : (SC Tryz.prog J0 JF0 hds).hd 36 = 0 := _root_.id (by kernel_rfl)
theorem hd_37 : (SC Tryz.prog J0 JF0 hds).hd 37 = 0 := _root_.id (by kernel_rfl)
theorem hd_38 : (SC Tryz.prog J0 JF0 hds).hd 38 = 2 := _root_.id (by kernel_rfl)
theorem hd_39 : (SC Tryz.prog J0 JF0 hds).hd 39 = 0 := _root_.id (by kernel_rfl)
theorem hd_40 : (SC Tryz.prog J0 JF0 hds).hd 40 = 0 := _root_.id (by kernel_rfl)
theorem hd_41 : (SC Tryz.prog J0 JF0 hds).hd 41 = 0 := _root_.id (by kernel_rfl)
theorem hd_42 : (SC Tryz.prog J0 JF0 hds).hd 42 = 2 := _root_.id (by kernel_rfl)
theorem hd_43 : (SC Tryz.prog J0 JF0 hds).hd 43 = 2 := _root_.id (by kernel_rfl)
theorem hd_44 : (SC Tryz.prog J0 JF0 hds).hd 44 = 0 := _root_.id (by kernel_rfl)
theorem hd_53 : (SC Tryz.prog J0 JF0 hds).hd 53 = 2 := _root_.id (by kernel_rfl)
theorem hd_54 : (SC Tryz.prog J0 JF0 hds).hd 54 = 0 := _root_.id (by kernel_rfl)
theorem hd_55 : (SC Tryz.prog J0 JF0 hds).hd 55 = 0 := _root_.id (by kernel_rfl)
theorem hd_56 : (SC Tryz.prog J0 JF0 hds).hd 56 = 0 := _root_.id (by kernel_rfl)
theorem hd_57 : (SC Tryz.prog J0 JF0 hds).hd 57 = 0 := _root_.id (by kernel_rfl)
theorem hd_58 : (SC Tryz.prog J0 JF0 hds).hd 58 = 0 := _root_.id (by kernel_rfl)
theorem hd_59 : (SC Tryz.prog J0 JF0 hds).hd 59 = 0 := _root_.id (by kernel_rfl)
theorem hd_60 : (SC Tryz.prog J0 JF0 hds).hd 60 = 0 := _root_.id (by kernel_rfl)
theorem hd_64 : (SC Tryz.prog J0 JF0 hds).hd 64 = 0 := _root_.id (by kernel_rfl)
theorem hd_65 : (SC Tryz.prog J0 JF0 hds).hd 65 = 0 := _root_.id (by kernel_rfl)
theorem hd_66 : (SC Tryz.prog J0 JF0 hds).hd 66 = 0 := _root_.id (by kernel_rfl)
theorem hd_67 : (SC Tryz.prog J0 JF0 hds).hd 67 = 0 := _root_.id (by kernel_rfl)
theorem hd_68 : (SC Tryz.prog J0 JF0 hds).hd 68 = 0 := _root_.id (by kernel_rfl)
theorem hd_69 : (SC Tryz.prog J0 JF0 hds).hd 69 = 0 := _root_.id (by kernel_rfl)
theorem hd_70 : (SC Tryz.prog J0 JF0 hds).hd 70 = 0 := _root_.id (by kernel_rfl)
theorem hd_71 : (SC Tryz.prog J0 JF0 hds).hd 71 = 0 := _root_.id (by kernel_rfl)
theorem hd_75 : (SC Tryz.prog J0 JF0 hds).hd 75 = 0 := _root_.id (by kernel_rfl)
theorem hd_76 : (SC Tryz.prog J0 JF0 hds).hd 76 = 0 := _root_.id (by kernel_rfl)
theorem hd_77 : (SC Tryz.prog J0 JF0 hds).hd 77 = 0 := _root_.id (by kernel_rfl)
theorem hd_78 : (SC Tryz.prog J0 JF0 hds).hd 78 = 0 := _root_.id (by kernel_rfl)
theorem hd_79 : (SC Tryz.prog J0 JF0 hds).hd 79 = 0 := _root_.id (by kernel_rfl)
theorem hd_80 : (SC Tryz.prog J0 JF0 hds).hd 80 = 0 := _root_.id (by kernel_rfl)
theorem hd_81 : (SC Tryz.prog J0 JF0 hds).hd 81 = 3 := _root_.id (by kernel_rfl)
theorem hd_82 : (SC Tryz.prog J0 JF0 hds).hd 82 = 0 := _root_.id (by kernel_rfl)
theorem hd_83 : (SC Tryz.prog J0 JF0 hds).hd 83 = 0 := _root_.id (by kernel_rfl)
theorem hd_84 : (SC Tryz.prog J0 JF0 hds).hd 84 = 0 := _root_.id (by kernel_rfl)
theorem hd_85 : (SC Tryz.prog J0 JF0 hds).hd 85 = 0 := _root_.id (by kernel_rfl)
theorem hd_88 : (SC Tryz.prog J0 JF0 hds).hd 88 = 0 := _root_.id (by kernel_rfl)
theorem hd_89 : (SC Tryz.prog J0 JF0 hds).hd 89 = 0 := _root_.id (by kernel_rfl)
theorem hd_90 : (SC Tryz.prog J0 JF0 hds).hd 90 = 0 := _root_.id (by kernel_rfl)
theorem hd_91 : (SC Tryz.prog J0 JF0 hds).hd 91 = 0 := _root_.id (by kernel_rfl)
theorem hd_92 : (SC Tryz.prog J0 JF0 hds).hd 92 = 0 := _root_.id (by kernel_rfl)
theorem hd_93 : (SC Tryz.prog J0 JF0 hds).hd 93 = 0 := _root_.id (by kernel_rfl)
theorem hd_94 : (SC Tryz.prog J0 JF0 hds).hd 94 = 0 := _root_.id (by kernel_rfl)
theorem hd_95 : (SC Tryz.prog J0 JF0 hds).hd 95 = 0 := _root_.id (by kernel_rfl)
theorem hd_96 : (SC Tryz.prog J0 JF0 hds).hd 96 = 0 := _root_.id (by kernel_rfl)
theorem hd_97 : (SC Tryz.prog J0 JF0 hds).hd 97 = 0 := _root_.id (by kernel_rfl)
theorem hd_98 : (SC Tryz.prog J0 JF0 hds).hd 98 = 0 := _root_.id (by kernel_rfl)
theorem hd_99 : (SC Tryz.prog J0 JF0 hds).hd 99 = 0 := _root_.id (by kernel_rfl)
theorem hd_100 : (SC Tryz.prog J0 JF0 hds).hd 100 = 0 := _root_.id (by kernel_rfl)
theorem hd_101 : (SC Tryz.prog J0 JF0 hds).hd 101 = 0 := _root_.id (by kernel_rfl)
theorem hd_102 : (SC Tryz.prog J0 JF0 hds).hd 102 = 0 := _root_.id (by kernel_rfl)
theorem hd_103 : (SC Tryz.prog J0 JF0 hds).hd 103 = 0 := _root_.id (by kernel_rfl)
theorem hd_104 : (SC Tryz.prog J0 JF0 hds).hd 104 = 0 := _root_.id (by kernel_rfl)
theorem hd_105 : (SC Tryz.prog J0 JF0 hds).hd 105 = 0 := _root_.id (by kernel_rfl)
theorem hd_108 : (SC Tryz.prog J0 JF0 hds).hd 108 = 0 := _root_.id (by kernel_rfl)
theorem hd_109 : (SC Tryz.prog J0 JF0 hds).hd 109 = 0 := _root_.id (by kernel_rfl)
theorem hd_110 : (SC Tryz.prog J0 JF0 hds).hd 110 = 0 := _root_.id (by kernel_rfl)
theorem hd_111 : (SC Tryz.prog J0 JF0 hds).hd 111 = 0 := _root_.id (by kernel_rfl)
theorem hd_112 : (SC Tryz.prog J0 JF0 hds).hd 112 = 0 := _root_.id (by kernel_rfl)
theorem hd_113 : (SC Tryz.prog J0 JF0 hds).hd 113 = 0 := _root_.id (by kernel_rfl)
theorem hd_114 : (SC Tryz.prog J0 JF0 hds).hd 114 = 0 := _root_.id (by kernel_rfl)
theorem hd_115 : (SC Tryz.prog J0 JF0 hds).hd 115 = 0 := _root_.id (by kernel_rfl)
theorem hd_116 : (SC Tryz.prog J0 JF0 hds).hd 116 = 0 := _root_.id (by kernel_rfl)
theorem hd_117 : (SC Tryz.prog J0 JF0 hds).hd 117 = 0 := _root_.id (by kernel_rfl)
theorem hd_118 : (SC Tryz.prog J0 JF0 hds).hd 118 = 0 := _root_.id (by kernel_rfl)
theorem hd_119 : (SC Tryz.prog J0 JF0 hds).hd 119 = 0 := _root_.id (by kernel_rfl)
theorem hd_120 : (SC Tryz.prog J0 JF0 hds).hd 120 = 0 := _root_.id (by kernel_rfl)
theorem hd_121 : (SC Tryz.prog J0 JF0 hds).hd 121 = 0 := _root_.id (by kernel_rfl)
theorem hd_122 : (SC Tryz.prog J0 JF0 hds).hd 122 = 0 := _root_.id (by kernel_rfl)
theorem hd_123 : (SC Tryz.prog J0 JF0 hds).hd 123 = 0 := _root_.id (by kernel_rfl)
theorem hd_126 : (SC Tryz.prog J0 JF0 hds).hd 126 = 0 := _root_.id (by kernel_rfl)
theorem hd_127 : (SC Tryz.prog J0 JF0 hds).hd 127 = 0 := _root_.id (by kernel_rfl)
theorem hd_128 : (SC Tryz.prog J0 JF0 hds).hd 128 = 0 := _root_.id (by kernel_rfl)
theorem hd_129 : (SC Tryz.prog J0 JF0 hds).hd 129 = 0 := _root_.id (by kernel_rfl)
theorem hd_130 : (SC Tryz.prog J0 JF0 hds).hd 130 = 0 := _root_.id (by kernel_rfl)
theorem hd_131 : (SC Tryz.prog J0 JF0 hds).hd 131 = 0 := _root_.id (by kernel_rfl)
theorem hd_132 : (SC Tryz.prog J0 JF0 hds).hd 132 = 0 := _root_.id (by kernel_rfl)
theorem hd_133 : (SC Tryz.prog J0 JF0 hds).hd 133 = 0 := _root_.id (by kernel_rfl)
theorem hd_134 : (SC Tryz.prog J0 JF0 hds).hd 134 = 0 := _root_.id (by kernel_rfl)
theorem hd_135 : (SC Tryz.prog J0 JF0 hds).hd 135 = 0 := _root_.id (by kernel_rfl)
theorem hd_136 : (SC Tryz.prog J0 JF0 hds).hd 136 = 0 := _root_.id (by kernel_rfl)
theorem hd_137 : (SC Tryz.prog J0 JF0 hds).hd 137 = 0 := _root_.id (by kernel_rfl)
theorem hd_138 : (SC Tryz.prog J0 JF0 hds).hd 138 = 0 := _root_.id (by kernel_rfl)
theorem hd_139 : (SC Tryz.prog J0 JF0 hds).hd 139 = 0 := _root_.id (by kernel_rfl)
theorem hd_140 : (SC Tryz.prog J0 JF0 hds).hd 140 = 0 := _root_.id (by kernel_rfl)
theorem hd_142 : (SC Tryz.prog J0 JF0 hds).hd 142 = 0 := _root_.id (by kernel_rfl)
theorem hd_144 : (SC Tryz.prog J0 JF0 hds).hd 144 = 0 := _root_.id (by kernel_rfl)
theorem hd_145 : (SC Tryz.prog J0 JF0 hds).hd 145 = 0 := _root_.id (by kernel_rfl)
theorem hd_146 : (SC Tryz.prog J0 JF0 hds).hd 146 = 1 := _root_.id (by kernel_rfl)
theorem hd_148 : (SC Tryz.prog J0 JF0 hds).hd 148 = 0 := _root_.id (by kernel_rfl)
theorem hd_150 : (SC Tryz.prog J0 JF0 hds).hd 150 = 0 := _root_.id (by kernel_rfl)
theorem hd_151 : (SC Tryz.prog J0 JF0 hds).hd 151 = 0 := _root_.id (by kernel_rfl)
theorem hd_152 : (SC Tryz.prog J0 JF0 hds).hd 152 = 0 := _root_.id (by kernel_rfl)
theorem hd_153 : (SC Tryz.prog J0 JF0 hds).hd 153 = 0 := _root_.id (by kernel_rfl)
theorem hd_154 : (SC Tryz.prog J0 JF0 hds).hd 154 = 0 := _root_.id (by kernel_rfl)
theorem hd_155 : (SC Tryz.prog J0 JF0 hds).hd 155 = 0 := _root_.id (by kernel_rfl)
theorem hd_156 : (SC Tryz.prog J0 JF0 hds).hd 156 = 0 := _root_.id (by kernel_rfl)
theorem hd_159 : (SC Tryz.prog J0 JF0 hds).hd 159 = 0 := _root_.id (by kernel_rfl)
theorem hd_160 : (SC Tryz.prog J0 JF0 hds).hd 160 = 0 := _root_.id (by kernel_rfl)
theorem hd_161 : (SC Tryz.prog J0 JF0 hds).hd 161 = 0 := _root_.id (by kernel_rfl)
theorem hd_162 : (SC Tryz.prog J0 JF0 hds).hd 162 = 0 := _root_.id (by kernel_rfl)
theorem hd_167 : (SC Tryz.prog J0 JF0 hds).hd 167 = 0 := _root_.id (by kernel_rfl)
theorem tt2 : tt 2 = some (.atom (.c (.int .i64 0))) := _root_.id rfl
theorem tt3 : tt 3 = some (.atom (.c (.int .i64 0))) := _root_.id rfl
theorem tt4 : tt 4 = some (.atom (.c (.bool false))) := _root_.id rfl
theorem tt5 : tt 5 = some (.atom (.c (.int .u8 0))) := _root_.id rfl
theorem tt9 : tt 9 = some (.atom (.c (.str ⟨#[]⟩))) := _root_.id rfl
theorem tt12 : tt 12 = some (.atom (.c (.int .u64 0))) := _root_.id rfl
theorem tt14 : tt 14 = some (.strct [⟨0, 1, false⟩, ⟨1, 1, false⟩] 2 [.c (.str ⟨#[]⟩), .c (.int .u64 0)]) := _root_.id rfl
theorem tt20 : tt 20 = some (.ifc) := _root_.id rfl
theorem tt21 : tt 21 = some (.atom (.c (.int .i32 0))) := _root_.id rfl
theorem tt22 : tt 22 = some (.slice 42 4 72 [.c (.str ⟨#[]⟩), .c (.int .i64 0), .nil 112 5, .nil 115 3]) := _root_.id rfl
theorem tt23 : tt 23 = some (.slice 46 2 40 [.c (.str ⟨#[]⟩), .nil 9 1]) := _root_.id rfl
theorem tt27 : tt 27 = some (.slice 52 4 72 [.c (.str ⟨#[]⟩), .c (.int .i64 0), .nil 99 5, .nil 62 3]) := _root_.id rfl
theorem tt29 : tt 29 = some (.slice 57 2 40 [.c (.str ⟨#[]⟩), .nil 9 1]) := _root_.id rfl
theorem tt39 : tt 39 = some (.slice 112 5 80 [.c (.int .i64 0), .c (.str ⟨#[]⟩), .nil 9 1, .c (.str ⟨#[]⟩), .c (.str ⟨#[]⟩)]) := _root_.id rfl
theorem tt40 : tt 40 = some (.slice 115 3 48 [.c (.int .i64 0), .c (.str ⟨#[]⟩), .nil 9 1]) := _root_.id rfl
theorem tt42 : tt 42 = some (.strct [⟨0, 1, false⟩, ⟨1, 1, false⟩, ⟨2, 1, false⟩, ⟨3, 1, false⟩] 4 [.c (.str ⟨#[]⟩), .c (.int .i64 0), .nil 112 5, .nil 115 3]) := _root_.id rfl
theorem tt44 : tt 44 = some (.slice 9 1 16 [.c (.str ⟨#[]⟩)]) := _root_.id rfl
theorem tt46 : tt 46 = some (.strct [⟨0, 1, false⟩, ⟨1, 1, false⟩] 2 [.c (.str ⟨#[]⟩), .nil 9 1]) := _root_.id rfl
theorem tt47 : tt 47 = some (.slice 56 3 64 [.c (.str ⟨#[]⟩), .nil 57 2, .nil 119 2]) := _root_.id rfl
theorem tt49 : tt 49 = some (.slice 99 5 80 [.c (.int .i64 0), .c (.str ⟨#[]⟩), .nil 9 1, .c (.str ⟨#[]⟩), .c (.str ⟨#[]⟩)]) := _root_.id rfl
theorem tt50 : tt 50 = some (.slice 62 3 48 [.c (.int .i64 0), .c (.str ⟨#[]⟩), .nil 9 1]) := _root_.id rfl
theorem tt52 : tt 52 = some (.strct [⟨0, 1, false⟩, ⟨1, 1, false⟩, ⟨2, 1, false⟩, ⟨3, 1, false⟩] 4 [.c (.str ⟨#[]⟩), .c (.int .i64 0), .nil 99 5, .nil 62 3]) := _root_.id rfl
theorem tt54 : tt 54 = some (.slice 119 2 32 [.c (.str ⟨#[]⟩), .c (.str ⟨#[]⟩)]) := _root_.id rfl
theorem tt56 : tt 56 = some (.strct [⟨0, 1, false⟩, ⟨1, 1, false⟩, ⟨2, 1, false⟩] 3 [.c (.str ⟨#[]⟩), .nil 57 2, .nil 119 2]) := _root_.id rfl
theorem tt57 : tt 57 = some (.strct [⟨0, 1, false⟩, ⟨1, 1, false⟩] 2 [.c (.str ⟨#[]⟩), .nil 9 1]) := _root_.id rfl
theorem tt60 : tt 60 = some (.strct [⟨0, 1, false⟩, ⟨1, 1, false⟩] 2 [.c (.str ⟨#[]⟩), .nil 9 1]) := _root_.id rfl
theorem tt62 : tt 62 = some (.strct [⟨0, 1, false⟩, ⟨1, 2, true⟩] 3 [.c (.int .i64 0), .c (.str ⟨#[]⟩), .nil 9 1]) := _root_.id rfl
theorem tt72 : tt 72 = some (.slice 76 2 48 [.nil 57 2, .nil 119 2]) := _root_.id rfl
theorem tt76 : tt 76 = some (.strct [⟨0, 1, false⟩, ⟨1, 1, false⟩] 2 [.nil 57 2, .nil 119 2]) := _root_.id rfl
theorem tt99 : tt 99 = some (.strct [⟨0, 1, false⟩, ⟨1, 2, true⟩, ⟨3, 1, false⟩, ⟨4, 1, false⟩] 5 [.c (.int .i64 0), .c (.str ⟨#[]⟩), .nil 9 1, .c (.str ⟨#[]⟩), .c (.str ⟨#[]⟩)]) := _root_.id rfl
theorem tt103 : tt 103 = some (.map .str .bool) := _root_.id rfl
theorem tt108 : tt 108 = some (.slice 5 1 1 [.c (.int .u8 0)]) := _root_.id rfl
theorem tt110 : tt 110 = some (.strct [⟨0, 1, false⟩, ⟨1, 1, false⟩] 2 [.c (.str ⟨#[]⟩), .nil 9 1]) := _root_.id rfl
theorem tt112 : tt 112 = some (.strct [⟨0, 1, false⟩, ⟨1, 2, true⟩, ⟨3, 1, false⟩, ⟨4, 1, false⟩] 5 [.c (.int .i64 0), .c (.str ⟨#[]⟩), .nil 9 1, .c (.str ⟨#[]⟩), .c (.str ⟨#[]⟩)]) := _root_.id rfl
theorem tt115 : tt 115 = some (.strct [⟨0, 1, false⟩, ⟨1, 2, true⟩] 3 [.c (.int .i64 0), .c (.str ⟨#[]⟩), .nil 9 1]) := _root_.id rfl
theorem tt119 : tt 119 = some (.strct [⟨0, 1, false⟩, ⟨1, 1, false⟩] 2 [.c (.str ⟨#[]⟩), .c (.str ⟨#[]⟩)]) := _root_.id rfl
theorem tt148 : tt 148 = some (.ifc) := _root_.id rfl
theorem tt149 : tt 149 = some (.ifc) := _root_.id rfl
theorem tt155 : tt 155 = some (.atom (.c (.int .u64 0))) := _root_.id rfl
theorem tt166 : tt 166 = some (.atom (.c (.int .u32 0))) := _root_.id rfl
theorem tt168 : tt 168 = some (.atom (.c (.int .u64 0))) := _root_.id rfl
theorem tt195 : tt 195 = some (.strct [⟨0, 1, false⟩] 1 [.c (.str ⟨#[]⟩)]) := _root_.id rfl
theorem fnk {f : FuncId} {fn : Func} {c : Code} {args : List (Bool × List CT)} {res : List RT} (hf : Tryz.prog.funcs[f]? = some fn) (hname : (fn.name == "runtime.NumGoroutine") = false) (hb : fn.body = some c) (hok : codeOk tt hds false fn.ntmps c = true) (hlen : Nat.ble args.length fn.ntmps = true) (h : fnS tt (SC Tryz.prog J0 JF0 hds) fn.results.toList c args res) : Sound Tryz.prog J0 f args res := fn_sound htt hJ0 hmix hf hname hb hok hlen h
theorem fnb {f : FuncId} {fn : Func} {c : Code} {args : List (Bool × List CT)} {nb : NB} (hf : Tryz.prog.funcs[f]? = some fn) (hname : (fn.name == "runtime.NumGoroutine") = false) (hb : fn.body = some c) (hok : codeOk tt hds false fn.ntmps c = true) (hlen : Nat.ble args.length fn.ntmps = true) (h : fnB tt (SC Tryz.prog J0 JF0 hds) fn.results.toList c args nb) : SoundB Tryz.prog J0 f args nb := fn_soundB htt hJ0 hmix hf hname hb hok hlen h
theorem fnn (t0 : Nat) {f : FuncId} {fn : Func} {c : Code} {args : List (Bool × List CT)} {res : List RT} (hf : Tryz.prog.funcs[f]? = some fn) (hname : (fn.name == "runtime.NumGoroutine") = false) (hb : fn.body = some c) (hok : codeOk tt hds false fn.ntmps c = true) (hlen : Nat.ble args.length fn.ntmps = true) (h : fnN tt (SC Tryz.prog J0 JF0 hds) fn.results.toList t0 c args res) : Sound Tryz.prog J0 f args res := fn_soundN htt hJ0 hmix hf hname hb hok hlen t0 h
def ePattern (x : PatternD) : List CT := [.str x.rel, .sl 9 1 (List.map eStr x.args)]
theorem ePattern_eq (x : PatternD) : ePattern x = [.str x.rel, .sl 9 1 (List.map eStr x.args)] := _root_.id rfl
def eCond (x : CondD) : List CT := [.int .i64 x.kind, .str x.pattern.rel, .sl 9 1 (List.map eStr x.pattern.args), .str x.left, .str x.right]
theorem eCond_eq (x : CondD) : eCond x = [.int .i64 x.kind, .str x.pattern.rel, .sl 9 1 (List.map eStr x.pattern.args), .str x.left, .str x.right] := _root_.id rfl
def eAction (x : ActionD) : List CT := [.int .i64 x.kind, .str x.pattern.rel, .sl 9 1 (List.map eStr x.pattern.args)]
theorem eAction_eq (x : ActionD) : eAction x = [.int .i64 x.kind, .str x.pattern.rel, .sl 9 1 (List.map eStr x.pattern.args)] := _root_.id rfl
def eRule (x : RuleD) : List CT := [.str x.name, .int .i64 x.priority, .sl 99 5 (List.map eCond x.cond), .sl 62 3 (List.map eAction x.thn)]
theorem eRule_eq (x : RuleD) : eRule x = [.str x.name, .int .i64 x.priority, .sl 99 5 (List.map eCond x.cond), .sl 62 3 (List.map eAction x.thn)] := _root_.id rfl
def eFact (x : FactD) : List CT := [.str x.rel, .sl 9 1 (List.map eStr x.args)]
theorem eFact_eq (x : FactD) : eFact x = [.str x.rel, .sl 9 1 (List.map eStr x.args)] := _root_.id rfl
def ePair (x : PairD) : List CT := [.str x.var, .str x.value]
theorem ePair_eq (x : PairD) : ePair x = [.str x.var, .str x.value] := _root_.id rfl
theorem ePair_flat (l : List PairD) : flatEs (l.map ePair) = true := flatEs_map (fun _ => rfl) l
def eMatch (x : MatchD) : List CT := [.str x.rule, .sl 57 2 (List.map eFact x.facts), .sl 119 2 (List.map ePair x.binding)]
theorem eMatch_eq (x : MatchD) : eMatch x = [.str x.rule, .sl 57 2 (List.map eFact x.facts), .sl 119 2 (List.map ePair x.binding)] := _root_.id rfl
def eToken (x : TokenD) : List CT := [.sl 57 2 (List.map eFact x.facts), .sl 119 2 (List.map ePair x.binding)]
theorem eToken_eq (x : TokenD) : eToken x = [.sl 57 2 (List.map eFact x.facts), .sl 119 2 (List.map ePair x.binding)] := _root_.id rfl
attribute [go_sem] tt2 tt3 tt4 tt5 tt9 tt12 tt14 tt20 tt21 tt22 tt23 tt27 tt29 tt39 tt40 tt42 tt44 tt46 tt47 tt49 tt50 tt52 tt54 tt56 tt57 tt60 tt62 tt72 tt76 tt99 tt103 tt108 tt110 tt112 tt115 tt119 tt148 tt149 tt155 tt166
attribute [go_sem] tt168 tt195 hd_7 hd_10 hd_13 hd_14 hd_20 hd_21 hd_22 hd_23 hd_24 hd_25 hd_28 hd_29 hd_30 hd_31 hd_32 hd_35 hd_36 hd_37 hd_38 hd_39 hd_40 hd_41 hd_42 hd_43 hd_44 hd_53 hd_54 hd_55 hd_56 hd_57 hd_58 hd_59 hd_60 hd_64 hd_65 hd_66 hd_67 hd_68
attribute [go_sem] hd_69 hd_70 hd_71 hd_75 hd_76 hd_77 hd_78 hd_79 hd_80 hd_81 hd_82 hd_83 hd_84 hd_85 hd_88 hd_89 hd_90 hd_91 hd_92 hd_93 hd_94 hd_95 hd_96 hd_97 hd_98 hd_99 hd_100 hd_101 hd_102 hd_103 hd_104 hd_105 hd_108 hd_109 hd_110 hd_111 hd_112 hd_113 hd_114 hd_115
attribute [go_sem] hd_116 hd_117 hd_118 hd_119 hd_120 hd_121 hd_122 hd_123 hd_126 hd_127 hd_128 hd_129 hd_130 hd_131 hd_132 hd_133 hd_134 hd_135 hd_136 hd_137 hd_138 hd_139 hd_140 hd_142 hd_144 hd_145 hd_146 hd_148 hd_150 hd_151 hd_152 hd_153 hd_154 hd_155 hd_156 hd_159 hd_160 hd_161 hd_162 hd_167
attribute [go_sem] ePattern_eq eCond_eq eAction_eq eRule_eq eFact_eq ePair_flat ePair_eq eMatch_eq eToken_eq
end Go.Proofs.YtlkgkkacnoaeaaaGreatDoor

namespace Go.Proofs
open Go.Shelf
def Tryz.lays106_ren : Go.Shelf.Ren := ⟨fun | 106 => 118 | 213 => 147 | 265 => 158 | n => n, fun | 9 => 9 | 3 => 3 | n => n, fun | n => n⟩
theorem Tryz.lays106 : Go.Proofs.Lays.n106 Tryz.prog Tryz.lays106_ren := {
  mixed := by kernel_rfl
  f106 := Tryz.func118.trans (congrArg some (by kernel_rfl))
  f213 := Tryz.func147.trans (congrArg some (by kernel_rfl))
  f265 := Tryz.func158.trans (congrArg some (by kernel_rfl))
  t3 := Tryz.underlying3
  a3 := Tryz.isAgg3
  z3 := Tryz.sizeOf3
  v3 := Tryz.zeroValue3
  t9 := Tryz.underlying9
  a9 := Tryz.isAgg9
  z9 := Tryz.sizeOf9
  v9 := Tryz.zeroValue9 }
open Go.RowKit in
/-- strings.Compare: "Compare returns an integer comparing two strings lexicographically. The result will be 0 if a == b, -1 if a < b, and +1 if a > b.": IT RETURNS 'Lib.compareBytes a b'; the world is as it was. (LAID: no walk: one application.) -/
theorem Tryz.strings_Compare (a b : ByteArray) (w : World) :
    Calls Tryz.prog 118 #[.string a, .string b] w fun e w' => e = .returned (.int .i64 (Lib.compareBytes a.data.toList b.data.toList)) ∧ w' = w := Any.strings_Compare Tryz.lays106 a b w
def Tryz.lays172_ren : Go.Shelf.Ren := ⟨fun | 172 => 159 | 244 => 165 | 245 => 166 | 247 => 179 | 279 => 180 | 280 => 181 | 281 => 182 | 282 => 183 | 287 => 191 | 316 => 192 | 171 => 167 | 205 => 193 | 321 => 196 | 322 => 197 | 243 => 184 | 246 => 194 | 283 => 198 | 284 => 199 | 285 => 200 | 286 => 201 | 129 => 178 | 317 => 202 | 318 => 203 | 319 => 204 | 320 => 205 | 337 => 206 | 338 => 207 | n => n, fun | 9 => 9 | 3 => 3 | 75 => 149 | 76 => 150 | 4 => 4 | 5 => 5 | 167 => 169 | 37 => 108 | 0 => 0 | 85 => 170 | 2 => 2 | 168 => 172 | 53 => 168 | 175 => 181 | 46 => 155 | 210 => 185 | 127 => 192 | 145 => 195 | 143 => 193 | 21 => 21 | 171 => 196 | 173 => 198 | 212 => 202 | 51 => 166 | 20 => 20 | 213 => 203 | 232 => 205 | 233 => 206 | 80 => 207 | n => n, fun | 15 => 1 | 16 => 2 | 17 => 3 | 18 => 4 | 19 => 5 | n => n⟩
theorem Tryz.lays172 : Go.Proofs.Lays.n172 Tryz.prog Tryz.lays172_ren := {
  mixed := by kernel_rfl
  f129 := Tryz.func178.trans (congrArg some (by kernel_rfl))
  f171 := Tryz.func167.trans (congrArg some (by kernel_rfl))
  f172 := Tryz.func159.trans (congrArg some (by kernel_rfl))
  f205 := Tryz.func193.trans (congrArg some (by kernel_rfl))
  f243 := Tryz.func184.trans (congrArg some (by kernel_rfl))
  f244 := Tryz.func165.trans (congrArg some (by kernel_rfl))
  f245 := Tryz.func166.trans (congrArg some (by kernel_rfl))
  f246 := Tryz.func194.trans (congrArg some (by kernel_rfl))
  f247 := Tryz.func179.trans (congrArg some (by kernel_rfl))
  f279 := Tryz.func180.trans (congrArg some (by kernel_rfl))
  f280 := Tryz.func181.trans (congrArg some (by kernel_rfl))
  f281 := Tryz.func182.trans (congrArg some (by kernel_rfl))
  f282 := Tryz.func183.trans (congrArg some (by kernel_rfl))
  f283 := Tryz.func198.trans (congrArg some (by kernel_rfl))
  f284 := Tryz.func199.trans (congrArg some (by kernel_rfl))
  f285 := Tryz.func200.trans (congrArg some (by kernel_rfl))
  f286 := Tryz.func201.trans (congrArg some (by kernel_rfl))
  f287 := Tryz.func191.trans (congrArg some (by kernel_rfl))
  f316 := Tryz.func192.trans (congrArg some (by kernel_rfl))
  f317 := Tryz.func202.trans (congrArg some (by kernel_rfl))
  f318 := Tryz.func203.trans (congrArg some (by kernel_rfl))
  f319 := Tryz.func204.trans (congrArg some (by kernel_rfl))
  f320 := Tryz.func205.trans (congrArg some (by kernel_rfl))
  f321 := Tryz.func196.trans (congrArg some (by kernel_rfl))
  f322 := Tryz.func197.trans (congrArg some (by kernel_rfl))
  f337 := Tryz.func206.trans (congrArg some (by kernel_rfl))
  f338 := Tryz.func207.trans (congrArg some (by kernel_rfl))
  t0 := Tryz.underlying0
  a0 := Tryz.isAgg0
  z0 := Tryz.sizeOf0
  v0 := Tryz.zeroValue0
  t2 := Tryz.underlying2
  a2 := Tryz.isAgg2
  z2 := Tryz.sizeOf2
  v2 := Tryz.zeroValue2
  t3 := Tryz.underlying3
  a3 := Tryz.isAgg3
  z3 := Tryz.sizeOf3
  v3 := Tryz.zeroValue3
  t4 := Tryz.underlying4
  a4 := Tryz.isAgg4
  z4 := Tryz.sizeOf4
  v4 := Tryz.zeroValue4
  t5 := Tryz.underlying5
  a5 := Tryz.isAgg5
  z5 := Tryz.sizeOf5
  v5 := Tryz.zeroValue5
  t9 := Tryz.underlying9
  a9 := Tryz.isAgg9
  z9 := Tryz.sizeOf9
  v9 := Tryz.zeroValue9
  t20 := Tryz.underlying20
  a20 := Tryz.isAgg20
  z20 := Tryz.sizeOf20
  v20 := Tryz.zeroValue20
  t21 := Tryz.underlying21
  a21 := Tryz.isAgg21
  z21 := Tryz.sizeOf21
  v21 := Tryz.zeroValue21
  t37 := Tryz.underlying108
  a37 := Tryz.isAgg108
  z37 := Tryz.sizeOf108
  v37 := Tryz.zeroValue108
  t46 := Tryz.underlying155
  a46 := Tryz.isAgg155
  z46 := Tryz.sizeOf155
  v46 := Tryz.zeroValue155
  t51 := Tryz.underlying166
  a51 := Tryz.isAgg166
  z51 := Tryz.sizeOf166
  v51 := Tryz.zeroValue166
  t53 := Tryz.underlying168
  a53 := Tryz.isAgg168
  z53 := Tryz.sizeOf168
  v53 := Tryz.zeroValue168
  t75 := Tryz.underlying149
  a75 := Tryz.isAgg149
  z75 := Tryz.sizeOf149
  v75 := Tryz.zeroValue149
  t76 := Tryz.underlying150
  a76 := Tryz.isAgg150
  z76 := Tryz.sizeOf150
  v76 := Tryz.zeroValue150
  t85 := Tryz.underlying170
  a85 := Tryz.isAgg170
  z85 := Tryz.sizeOf170
  v85 := Tryz.zeroValue170
  t127 := Tryz.underlying192
  a127 := Tryz.isAgg192
  z127 := Tryz.sizeOf192
  v127 := Tryz.zeroValue192
  t143 := Tryz.underlying193
  a143 := Tryz.isAgg193
  z143 := Tryz.sizeOf193
  v143 := Tryz.zeroValue193
  t145 := Tryz.underlying195
  a145 := Tryz.isAgg195
  z145 := Tryz.sizeOf195
  v145 := Tryz.zeroValue195
  t167 := Tryz.underlying169
  a167 := Tryz.isAgg169
  z167 := Tryz.sizeOf169
  v167 := Tryz.zeroValue169
  t168 := Tryz.underlying172
  a168 := Tryz.isAgg172
  z168 := Tryz.sizeOf172
  v168 := Tryz.zeroValue172
  t171 := Tryz.underlying196
  a171 := Tryz.isAgg196
  z171 := Tryz.sizeOf196
  v171 := Tryz.zeroValue196
  t173 := Tryz.underlying198
  a173 := Tryz.isAgg198
  z173 := Tryz.sizeOf198
  v173 := Tryz.zeroValue198
  t175 := Tryz.underlying181
  a175 := Tryz.isAgg181
  z175 := Tryz.sizeOf181
  v175 := Tryz.zeroValue181
  t210 := Tryz.underlying185
  a210 := Tryz.isAgg185
  z210 := Tryz.sizeOf185
  v210 := Tryz.zeroValue185
  t212 := Tryz.underlying202
  a212 := Tryz.isAgg202
  z212 := Tryz.sizeOf202
  v212 := Tryz.zeroValue202
  t213 := Tryz.underlying203
  a213 := Tryz.isAgg203
  z213 := Tryz.sizeOf203
  t232 := Tryz.underlying205
  a232 := Tryz.isAgg205
  z232 := Tryz.sizeOf205
  v232 := Tryz.zeroValue205
  t233 := Tryz.underlying206
  a233 := Tryz.isAgg206
  z233 := Tryz.sizeOf206
  v233 := Tryz.zeroValue206
  g15 := by kernel_rfl
  g16 := by kernel_rfl
  g17 := by kernel_rfl
  g18 := by kernel_rfl
  g19 := by kernel_rfl }
open Go.RowKit in
/-- strconv.Atoi: "Atoi is equivalent to ParseInt(s, 10, 0), converted to type int.": AT A DECIMAL NUMERAL OF AT MOST 18 BYTES: its value, and a nil error. The world behind the call: the one new row that the library's '[]byte(s)' lays. (LAID: no walk: one application.) -/
theorem Tryz.strconv_Atoi (s : ByteArray) (n : Int) (hl : s.size ≤ 18) (h : Lib.atoi s.data.toList = some n) (w : World) :
    Calls Tryz.prog 159 #[.string s] w fun e w' => e = .returned (.tuple #[.int .i64 n, .nilIface]) ∧ ∃ t, w' = Lib.bytesWorld w 5 t := Any.strconv_Atoi Tryz.lays172 s n hl h w
def Tryz.laysM171_ren : Go.Shelf.Ren := ⟨fun | 171 => 167 | 243 => 184 | 246 => 194 | 283 => 198 | 284 => 199 | 285 => 200 | 286 => 201 | 129 => 178 | 317 => 202 | 318 => 203 | 319 => 204 | 320 => 205 | 337 => 206 | 338 => 207 | n => n, fun | 3 => 3 | 9 => 9 | 2 => 2 | 4 => 4 | 171 => 196 | 0 => 0 | 53 => 168 | 37 => 108 | 5 => 5 | 173 => 198 | 212 => 202 | 51 => 166 | 20 => 20 | 213 => 203 | 46 => 155 | 232 => 205 | 233 => 206 | n => n, fun | 17 => 3 | 18 => 4 | 19 => 5 | n => n⟩
theorem Tryz.laysM171 : Go.Proofs.LaysM.n171 Tryz.prog Tryz.laysM171_ren := {
  mixed := by kernel_rfl
  f129 := Tryz.func178.trans (congrArg some (by kernel_rfl))
  f171 := Tryz.func167.trans (congrArg some (by kernel_rfl))
  f243 := Tryz.func184.trans (congrArg some (by kernel_rfl))
  f246 := Tryz.func194.trans (congrArg some (by kernel_rfl))
  f283 := Tryz.func198.trans (congrArg some (by kernel_rfl))
  f284 := Tryz.func199.trans (congrArg some (by kernel_rfl))
  f285 := Tryz.func200.trans (congrArg some (by kernel_rfl))
  f286 := Tryz.func201.trans (congrArg some (by kernel_rfl))
  f317 := Tryz.func202.trans (congrArg some (by kernel_rfl))
  f318 := Tryz.func203.trans (congrArg some (by kernel_rfl))
  f319 := Tryz.func204.trans (congrArg some (by kernel_rfl))
  f320 := Tryz.func205.trans (congrArg some (by kernel_rfl))
  f337 := Tryz.func206.trans (congrArg some (by kernel_rfl))
  f338 := Tryz.func207.trans (congrArg some (by kernel_rfl))
  t0 := Tryz.underlying0
  a0 := Tryz.isAgg0
  z0 := Tryz.sizeOf0
  v0 := Tryz.zeroValue0
  t2 := Tryz.underlying2
  a2 := Tryz.isAgg2
  z2 := Tryz.sizeOf2
  v2 := Tryz.zeroValue2
  t3 := Tryz.underlying3
  a3 := Tryz.isAgg3
  z3 := Tryz.sizeOf3
  v3 := Tryz.zeroValue3
  t4 := Tryz.underlying4
  a4 := Tryz.isAgg4
  z4 := Tryz.sizeOf4
  v4 := Tryz.zeroValue4
  t5 := Tryz.underlying5
  a5 := Tryz.isAgg5
  z5 := Tryz.sizeOf5
  v5 := Tryz.zeroValue5
  t9 := Tryz.underlying9
  a9 := Tryz.isAgg9
  z9 := Tryz.sizeOf9
  v9 := Tryz.zeroValue9
  t20 := Tryz.underlying20
  a20 := Tryz.isAgg20
  z20 := Tryz.sizeOf20
  v20 := Tryz.zeroValue20
  t37 := Tryz.underlying108
  a37 := Tryz.isAgg108
  z37 := Tryz.sizeOf108
  v37 := Tryz.zeroValue108
  t46 := Tryz.underlying155
  a46 := Tryz.isAgg155
  z46 := Tryz.sizeOf155
  v46 := Tryz.zeroValue155
  t51 := Tryz.underlying166
  a51 := Tryz.isAgg166
  z51 := Tryz.sizeOf166
  v51 := Tryz.zeroValue166
  t53 := Tryz.underlying168
  a53 := Tryz.isAgg168
  z53 := Tryz.sizeOf168
  v53 := Tryz.zeroValue168
  t171 := Tryz.underlying196
  a171 := Tryz.isAgg196
  z171 := Tryz.sizeOf196
  v171 := Tryz.zeroValue196
  t173 := Tryz.underlying198
  a173 := Tryz.isAgg198
  z173 := Tryz.sizeOf198
  v173 := Tryz.zeroValue198
  t212 := Tryz.underlying202
  a212 := Tryz.isAgg202
  z212 := Tryz.sizeOf202
  v212 := Tryz.zeroValue202
  t213 := Tryz.underlying203
  a213 := Tryz.isAgg203
  z213 := Tryz.sizeOf203
  t232 := Tryz.underlying205
  a232 := Tryz.isAgg205
  z232 := Tryz.sizeOf205
  v232 := Tryz.zeroValue205
  t233 := Tryz.underlying206
  a233 := Tryz.isAgg206
  z233 := Tryz.sizeOf206
  v233 := Tryz.zeroValue206
  g17 := by kernel_rfl
  g18 := by kernel_rfl
  g19 := by kernel_rfl
  i0 := by kernel_rfl
  i2 := by kernel_rfl
  i3 := by kernel_rfl
  i4 := by kernel_rfl
  i5 := by kernel_rfl
  i9 := by kernel_rfl
  i20 := by kernel_rfl
  i37 := by kernel_rfl
  i46 := by kernel_rfl
  i51 := by kernel_rfl
  i53 := by kernel_rfl
  i171 := by kernel_rfl
  i173 := by kernel_rfl
  i212 := by kernel_rfl
  i232 := by kernel_rfl
  i233 := by kernel_rfl
  m17 := by kernel_rfl
  m18 := by kernel_rfl
  m19 := by kernel_rfl }
open Go.RowKit Go.Sort Go.Lib in
/-- strconv.Itoa: "Itoa is equivalent to FormatInt(int64(i), 10).": i's DECIMAL NUMERAL ('Lib.itoa': a '-' where i is negative, then the digits), FOR EVERY int. The world behind the call: the world before it, new blocks behind the heap (the library's 'var a [24]byte'), draws. (LAID: no walk: one application.) -/
theorem Tryz.strconv_Itoa (n : Int) (h0 : -9223372036854775808 ≤ n) (h1 : n ≤ 9223372036854775807) (w : World) (htab : Lib.TabIs Tryz.prog w "internal/strconv.uint64pow10" .u64 Lib.pow10Tab) :
    Calls Tryz.prog 167 #[.int .i64 n] w fun e w' => e = .returned (.string ⟨(Lib.itoa n).toArray⟩) ∧ ∃ k os, w' = grow (w.drewN k) os := Any.strconv_Itoa Tryz.laysM171 n h0 h1 w htab
def Tryz.laysC172_ren : Go.Shelf.Ren := ⟨fun | 172 => 159 | 244 => 165 | 245 => 166 | 247 => 179 | 279 => 180 | 280 => 181 | 281 => 182 | 282 => 183 | 287 => 191 | 316 => 192 | 171 => 167 | 205 => 193 | 321 => 196 | 322 => 197 | 243 => 184 | 246 => 194 | 283 => 198 | 284 => 199 | 285 => 200 | 286 => 201 | 129 => 178 | 317 => 202 | 318 => 203 | 319 => 204 | 320 => 205 | 337 => 206 | 338 => 207 | n => n, fun | 9 => 9 | 3 => 3 | 75 => 149 | 76 => 150 | 4 => 4 | 5 => 5 | 167 => 169 | 37 => 108 | 0 => 0 | 85 => 170 | 2 => 2 | 168 => 172 | 53 => 168 | 175 => 181 | 46 => 155 | 210 => 185 | 127 => 192 | 145 => 195 | 143 => 193 | 21 => 21 | 171 => 196 | 173 => 198 | 212 => 202 | 51 => 166 | 20 => 20 | 213 => 203 | 232 => 205 | 233 => 206 | 80 => 207 | n => n, fun | 15 => 1 | 16 => 2 | 17 => 3 | 18 => 4 | 19 => 5 | n => n⟩
theorem Tryz.laysC172 : Go.Proofs.LaysC.n172 Tryz.prog Tryz.laysC172_ren := {
  mixed := by kernel_rfl
  f129 := Tryz.func178.trans (congrArg some (by kernel_rfl))
  f171 := Tryz.func167.trans (congrArg some (by kernel_rfl))
  f172 := Tryz.func159.trans (congrArg some (by kernel_rfl))
  f205 := Tryz.func193.trans (congrArg some (by kernel_rfl))
  f243 := Tryz.func184.trans (congrArg some (by kernel_rfl))
  f244 := Tryz.func165.trans (congrArg some (by kernel_rfl))
  f245 := Tryz.func166.trans (congrArg some (by kernel_rfl))
  f246 := Tryz.func194.trans (congrArg some (by kernel_rfl))
  f247 := Tryz.func179.trans (congrArg some (by kernel_rfl))
  f279 := Tryz.func180.trans (congrArg some (by kernel_rfl))
  f280 := Tryz.func181.trans (congrArg some (by kernel_rfl))
  f281 := Tryz.func182.trans (congrArg some (by kernel_rfl))
  f282 := Tryz.func183.trans (congrArg some (by kernel_rfl))
  f283 := Tryz.func198.trans (congrArg some (by kernel_rfl))
  f284 := Tryz.func199.trans (congrArg some (by kernel_rfl))
  f285 := Tryz.func200.trans (congrArg some (by kernel_rfl))
  f286 := Tryz.func201.trans (congrArg some (by kernel_rfl))
  f287 := Tryz.func191.trans (congrArg some (by kernel_rfl))
  f316 := Tryz.func192.trans (congrArg some (by kernel_rfl))
  f317 := Tryz.func202.trans (congrArg some (by kernel_rfl))
  f318 := Tryz.func203.trans (congrArg some (by kernel_rfl))
  f319 := Tryz.func204.trans (congrArg some (by kernel_rfl))
  f320 := Tryz.func205.trans (congrArg some (by kernel_rfl))
  f321 := Tryz.func196.trans (congrArg some (by kernel_rfl))
  f322 := Tryz.func197.trans (congrArg some (by kernel_rfl))
  f337 := Tryz.func206.trans (congrArg some (by kernel_rfl))
  f338 := Tryz.func207.trans (congrArg some (by kernel_rfl))
  t0 := Tryz.underlying0
  a0 := Tryz.isAgg0
  z0 := Tryz.sizeOf0
  v0 := Tryz.zeroValue0
  t2 := Tryz.underlying2
  a2 := Tryz.isAgg2
  z2 := Tryz.sizeOf2
  v2 := Tryz.zeroValue2
  t3 := Tryz.underlying3
  a3 := Tryz.isAgg3
  z3 := Tryz.sizeOf3
  v3 := Tryz.zeroValue3
  t4 := Tryz.underlying4
  a4 := Tryz.isAgg4
  z4 := Tryz.sizeOf4
  v4 := Tryz.zeroValue4
  t5 := Tryz.underlying5
  a5 := Tryz.isAgg5
  z5 := Tryz.sizeOf5
  v5 := Tryz.zeroValue5
  t9 := Tryz.underlying9
  a9 := Tryz.isAgg9
  z9 := Tryz.sizeOf9
  v9 := Tryz.zeroValue9
  t20 := Tryz.underlying20
  a20 := Tryz.isAgg20
  z20 := Tryz.sizeOf20
  v20 := Tryz.zeroValue20
  t21 := Tryz.underlying21
  a21 := Tryz.isAgg21
  z21 := Tryz.sizeOf21
  v21 := Tryz.zeroValue21
  t37 := Tryz.underlying108
  a37 := Tryz.isAgg108
  z37 := Tryz.sizeOf108
  v37 := Tryz.zeroValue108
  t46 := Tryz.underlying155
  a46 := Tryz.isAgg155
  z46 := Tryz.sizeOf155
  v46 := Tryz.zeroValue155
  t51 := Tryz.underlying166
  a51 := Tryz.isAgg166
  z51 := Tryz.sizeOf166
  v51 := Tryz.zeroValue166
  t53 := Tryz.underlying168
  a53 := Tryz.isAgg168
  z53 := Tryz.sizeOf168
  v53 := Tryz.zeroValue168
  t75 := Tryz.underlying149
  a75 := Tryz.isAgg149
  z75 := Tryz.sizeOf149
  v75 := Tryz.zeroValue149
  t76 := Tryz.underlying150
  a76 := Tryz.isAgg150
  z76 := Tryz.sizeOf150
  v76 := Tryz.zeroValue150
  t85 := Tryz.underlying170
  a85 := Tryz.isAgg170
  z85 := Tryz.sizeOf170
  v85 := Tryz.zeroValue170
  t127 := Tryz.underlying192
  a127 := Tryz.isAgg192
  z127 := Tryz.sizeOf192
  v127 := Tryz.zeroValue192
  t143 := Tryz.underlying193
  a143 := Tryz.isAgg193
  z143 := Tryz.sizeOf193
  v143 := Tryz.zeroValue193
  t145 := Tryz.underlying195
  a145 := Tryz.isAgg195
  z145 := Tryz.sizeOf195
  v145 := Tryz.zeroValue195
  t167 := Tryz.underlying169
  a167 := Tryz.isAgg169
  z167 := Tryz.sizeOf169
  v167 := Tryz.zeroValue169
  t168 := Tryz.underlying172
  a168 := Tryz.isAgg172
  z168 := Tryz.sizeOf172
  v168 := Tryz.zeroValue172
  t171 := Tryz.underlying196
  a171 := Tryz.isAgg196
  z171 := Tryz.sizeOf196
  v171 := Tryz.zeroValue196
  t173 := Tryz.underlying198
  a173 := Tryz.isAgg198
  z173 := Tryz.sizeOf198
  v173 := Tryz.zeroValue198
  t175 := Tryz.underlying181
  a175 := Tryz.isAgg181
  z175 := Tryz.sizeOf181
  v175 := Tryz.zeroValue181
  t210 := Tryz.underlying185
  a210 := Tryz.isAgg185
  z210 := Tryz.sizeOf185
  v210 := Tryz.zeroValue185
  t212 := Tryz.underlying202
  a212 := Tryz.isAgg202
  z212 := Tryz.sizeOf202
  v212 := Tryz.zeroValue202
  t213 := Tryz.underlying203
  a213 := Tryz.isAgg203
  z213 := Tryz.sizeOf203
  t232 := Tryz.underlying205
  a232 := Tryz.isAgg205
  z232 := Tryz.sizeOf205
  v232 := Tryz.zeroValue205
  t233 := Tryz.underlying206
  a233 := Tryz.isAgg206
  z233 := Tryz.sizeOf206
  v233 := Tryz.zeroValue206
  g15 := by kernel_rfl
  g16 := by kernel_rfl
  g17 := by kernel_rfl
  g18 := by kernel_rfl
  g19 := by kernel_rfl
  t80 := Tryz.underlying207
  a80 := Tryz.isAgg207
  z80 := Tryz.sizeOf207
  v80 := Tryz.zeroValue207
  i0 := by kernel_rfl
  i2 := by kernel_rfl
  i3 := by kernel_rfl
  i4 := by kernel_rfl
  i5 := by kernel_rfl
  i9 := by kernel_rfl
  i20 := by kernel_rfl
  i21 := by kernel_rfl
  i37 := by kernel_rfl
  i46 := by kernel_rfl
  i51 := by kernel_rfl
  i53 := by kernel_rfl
  i75 := by kernel_rfl
  i76 := by kernel_rfl
  i80 := by kernel_rfl
  i85 := by kernel_rfl
  i127 := by kernel_rfl
  i143 := by kernel_rfl
  i145 := by kernel_rfl
  i167 := by kernel_rfl
  i168 := by kernel_rfl
  i171 := by kernel_rfl
  i173 := by kernel_rfl
  i175 := by kernel_rfl
  i210 := by kernel_rfl
  i212 := by kernel_rfl
  i232 := by kernel_rfl
  i233 := by kernel_rfl
  m15 := by kernel_rfl
  m16 := by kernel_rfl
  m17 := by kernel_rfl
  m18 := by kernel_rfl
  m19 := by kernel_rfl
  c0 := by kernel_rfl
  c2 := by kernel_rfl
  c3 := by kernel_rfl
  c4 := by kernel_rfl
  c5 := by kernel_rfl
  c9 := by kernel_rfl
  c20 := by kernel_rfl
  c21 := by kernel_rfl
  c37 := by kernel_rfl
  c46 := by kernel_rfl
  c51 := by kernel_rfl
  c53 := by kernel_rfl
  c75 := by kernel_rfl
  c76 := by kernel_rfl
  c80 := by kernel_rfl
  c85 := by kernel_rfl
  c127 := by kernel_rfl
  c143 := by kernel_rfl
  c145 := by kernel_rfl
  c167 := by kernel_rfl
  c168 := by kernel_rfl
  c171 := by kernel_rfl
  c173 := by kernel_rfl
  c175 := by kernel_rfl
  c210 := by kernel_rfl
  c212 := by kernel_rfl
  c213 := by kernel_rfl
  c232 := by kernel_rfl
  c233 := by kernel_rfl }
open Go.RowKit in
theorem Tryz.strconv_Atoi_err_var (s : ByteArray) (hl : s.size ≤ 18) (h : Lib.atoi s.data.toList = none) (tp : TypeId) (p : Value) (w : World) (hvar : w.var? Tryz.prog "strconv.ErrSyntax" = some #[.iface tp p]) :
    Calls Tryz.prog 159 #[.string s] w fun e w' => ∃ N, e = .returned (.tuple #[.int .i64 0, .iface 172 (.pointer (some ⟨N, 0, none⟩))]) ∧ w.heap.size ≤ N ∧ w'.heap[N]? = some (.cells #[.string ⟨#[65, 116, 111, 105]⟩, .string s, .iface tp p] 185 (0, 0)) ∧ Below w.heap.size w w' := Any.strconv_Atoi_err_var Tryz.laysC172 s hl h tp p w hvar
def Tryz.lays192_ren : Go.Shelf.Ren := ⟨fun | 192 => 146 | 190 => 157 | 125 => 164 | 258 => 163 | 128 => 177 | 129 => 178 | 302 => 168 | 303 => 169 | 304 => 170 | 305 => 171 | 306 => 172 | 307 => 173 | 308 => 174 | 309 => 175 | 310 => 176 | 333 => 185 | 329 => 186 | 330 => 187 | 334 => 188 | 335 => 189 | 336 => 190 | 344 => 195 | n => n, fun | 31 => 44 | 0 => 0 | 9 => 9 | 3 => 3 | 46 => 155 | 51 => 166 | 53 => 168 | 4 => 4 | 183 => 159 | 182 => 158 | 131 => 143 | 5 => 5 | 218 => 175 | 222 => 179 | 228 => 188 | 229 => 189 | n => n, fun | n => n⟩
theorem Tryz.lays192 : Go.Proofs.Lays.n192 Tryz.prog Tryz.lays192_ren := {
  mixed := by kernel_rfl
  f125 := Tryz.func164.trans (congrArg some (by kernel_rfl))
  f128 := Tryz.func177.trans (congrArg some (by kernel_rfl))
  f129 := Tryz.func178.trans (congrArg some (by kernel_rfl))
  f190 := Tryz.func157.trans (congrArg some (by kernel_rfl))
  f192 := Tryz.func146.trans (congrArg some (by kernel_rfl))
  f258 := Tryz.func163.trans (congrArg some (by kernel_rfl))
  f302 := Tryz.func168.trans (congrArg some (by kernel_rfl))
  f303 := Tryz.func169.trans (congrArg some (by kernel_rfl))
  f304 := Tryz.func170.trans (congrArg some (by kernel_rfl))
  f305 := Tryz.func171.trans (congrArg some (by kernel_rfl))
  f306 := Tryz.func172.trans (congrArg some (by kernel_rfl))
  f307 := Tryz.func173.trans (congrArg some (by kernel_rfl))
  f308 := Tryz.func174.trans (congrArg some (by kernel_rfl))
  f309 := Tryz.func175.trans (congrArg some (by kernel_rfl))
  f310 := Tryz.func176.trans (congrArg some (by kernel_rfl))
  f329 := Tryz.func186.trans (congrArg some (by kernel_rfl))
  f330 := Tryz.func187.trans (congrArg some (by kernel_rfl))
  f333 := Tryz.func185.trans (congrArg some (by kernel_rfl))
  f334 := Tryz.func188.trans (congrArg some (by kernel_rfl))
  f335 := Tryz.func189.trans (congrArg some (by kernel_rfl))
  f336 := Tryz.func190.trans (congrArg some (by kernel_rfl))
  f344 := Tryz.func195.trans (congrArg some (by kernel_rfl))
  t0 := Tryz.underlying0
  a0 := Tryz.isAgg0
  z0 := Tryz.sizeOf0
  v0 := Tryz.zeroValue0
  t3 := Tryz.underlying3
  a3 := Tryz.isAgg3
  z3 := Tryz.sizeOf3
  v3 := Tryz.zeroValue3
  t4 := Tryz.underlying4
  a4 := Tryz.isAgg4
  z4 := Tryz.sizeOf4
  v4 := Tryz.zeroValue4
  t5 := Tryz.underlying5
  a5 := Tryz.isAgg5
  z5 := Tryz.sizeOf5
  v5 := Tryz.zeroValue5
  t9 := Tryz.underlying9
  a9 := Tryz.isAgg9
  z9 := Tryz.sizeOf9
  v9 := Tryz.zeroValue9
  t31 := Tryz.underlying44
  a31 := Tryz.isAgg44
  z31 := Tryz.sizeOf44
  v31 := Tryz.zeroValue44
  t46 := Tryz.underlying155
  a46 := Tryz.isAgg155
  z46 := Tryz.sizeOf155
  v46 := Tryz.zeroValue155
  t51 := Tryz.underlying166
  a51 := Tryz.isAgg166
  z51 := Tryz.sizeOf166
  v51 := Tryz.zeroValue166
  t53 := Tryz.underlying168
  a53 := Tryz.isAgg168
  z53 := Tryz.sizeOf168
  v53 := Tryz.zeroValue168
  t131 := Tryz.underlying143
  a131 := Tryz.isAgg143
  z131 := Tryz.sizeOf143
  v131 := Tryz.zeroValue143
  t182 := Tryz.underlying158
  a182 := Tryz.isAgg158
  z182 := Tryz.sizeOf158
  v182 := Tryz.zeroValue158
  t183 := Tryz.underlying159
  a183 := Tryz.isAgg159
  z183 := Tryz.sizeOf159
  v183 := Tryz.zeroValue159
  t218 := Tryz.underlying175
  a218 := Tryz.isAgg175
  z218 := Tryz.sizeOf175
  v218 := Tryz.zeroValue175
  t222 := Tryz.underlying179
  a222 := Tryz.isAgg179
  z222 := Tryz.sizeOf179
  v222 := Tryz.zeroValue179
  t228 := Tryz.underlying188
  a228 := Tryz.isAgg188
  z228 := Tryz.sizeOf188
  v228 := Tryz.zeroValue188
  t229 := Tryz.underlying189
  a229 := Tryz.isAgg189
  z229 := Tryz.sizeOf189
  v229 := Tryz.zeroValue189 }
open Go.Sort Go.RowKit in
theorem Tryz.sort_Strings (blk off cap : Nat) (ss : List (List UInt8)) (w : World) (hH : Holds encStr w blk off ss.toArray) (hblk : blk < w.heap.size) (hsz : ss.length < 4611686018427387904) :
    Calls Tryz.prog 146 #[.slice (some ⟨blk, off, none⟩) ss.length cap] w fun e w' =>
      e = .returned (.tuple #[]) ∧ ∃ n os, w' = grow (putRow encStr (Sort.ahead w n) blk off (ss.mergeSort fun x y => decide (x ≤ y)).toArray) os := Any.sort_Strings Tryz.lays192 blk off cap ss w hH hblk hsz
open Go.RowKit Go.Sort in
/-- .. and plain. (LAID: no walk: one application.) -/
theorem Tryz.sort_Strings_none (p : Option Addr) (cap : Nat) (w : World) :
    Calls Tryz.prog 146 #[.slice p 0 cap] w fun e w' => e = .returned (.tuple #[]) ∧ w' = w := Any.sort_Strings_none Tryz.lays192 p cap w
end Go.Proofs

namespace Go.Proofs.YtlkgkkacnoaeaaaGreatDoor
open Go.RowKit
theorem compare_S {J : World → Prop} {a b : ByteArray} {r : Int} (h : x_Compare a b = some r) : Sound Tryz.prog J 118 [(false, [.str a]), (false, [.str b])] [(false, [(false, .int .i64 r)])] := by
  obtain rfl := Option.some.inj h
  refine ⟨⟨Tryz.f118, Tryz.func118, by kernel_rfl, by kernel_rfl⟩, fun w z vs hj hz hargs => ?_⟩
  obtain ⟨v, u, L, M, rfl, ⟨rfl, _⟩, rfl, _⟩ := args_two hargs
  refine (Tryz.strings_Compare a b w).mono ?_
  rintro e w' ⟨rfl, rfl⟩
  exact ⟨_, z, rfl, resv_one ⟨⟨rfl, rfl⟩, rfl⟩, fun b h => h, Below.refl _ _⟩
end Go.Proofs.YtlkgkkacnoaeaaaGreatDoor

namespace Go.Proofs.YtlkgkkacnoaeaaaGreatDoor
open Go.RowKit Go.Sort
theorem sort_hand {α : Type} [Inhabited α] {P : Program} {J : World → Prop} {JF : Nat → Prop} (enc : α → Value) (el : α → List CT) (hel : ∀ (w : World) x v L, RCs w (el x) v L → v = [enc x]) (hmv : ∀ (w w' : World) x, RCs w (el x) [enc x] [] → RCs w' (el x) [enc x] []) (hflat : ∀ l : List α, flatEs (l.map el) = true) {f : FuncId} {e : TypeId} {zs d : List α} (hc : Callable P f) (hd : d.length = zs.length) (hsub : ∀ x ∈ d, x ∈ zs)
    (hN : ∀ p cap w, Calls P f #[.slice p 0 cap] w fun e w' => e = .returned (.tuple #[]) ∧ w' = w)
    (hC : ∀ blk off cap w, Holds enc w blk off zs.toArray → blk < w.heap.size → Calls P f #[.slice (some ⟨blk, off, none⟩) zs.length cap] w fun e w' => e = .returned (.tuple #[]) ∧ ∃ n os, w' = grow (putRow enc (Sort.ahead w n) blk off d.toArray) os) :
    SoundH P J JF f (.row e 1 (zs.map el)) [] [] (.row e 1 (d.map el)) := by
  refine ⟨hc, fun w z q v0 vs hj hqf hz hh ha => ?_⟩
  cases vs with
  | cons _ _ => exact ha.elim
  | nil =>
  obtain ⟨hfl, hm, hq, cs, hown, hre⟩ := hh
  have hcs : ∀ (l : List α) (cs : List Value) (L : List Nat), REs w 1 (l.map el) cs L → cs = l.map enc ∧ (L = [] → ∀ x ∈ l, RCs w (el x) [enc x] []) := by
    intro l
    induction l with
    | nil => intro cs L h; exact ⟨h.1, fun _ x mx => by simp at mx⟩
    | cons x l ih =>
      rintro cs L ⟨c1, c2, L1, L2, rfl, rfl, h3, h4⟩
      obtain ⟨i1, i2⟩ := ih _ _ h4
      have e1 := hel _ _ _ _ h3.1
      refine ⟨by rw [e1, i1]; rfl, fun hL y my => ?_⟩
      obtain ⟨l1, l2⟩ := List.append_eq_nil_iff.1 hL
      rcases List.mem_cons.1 my with rfl | my
      · rw [← e1, ← l1]; exact h3.1
      · exact i2 l2 y my
  obtain ⟨e1, e2⟩ := hcs zs cs [] hre
  have e2 := e2 rfl
  subst e1
  have hre' : ∀ (w' : World) (l : List α), (∀ x ∈ l, x ∈ zs) → REs w' 1 (l.map el) (l.map enc) [] := by
    intro w' l
    induction l with
    | nil => intro _; exact ⟨rfl, rfl⟩
    | cons x l ih => intro hl; exact ⟨[enc x], l.map enc, [], [], rfl, rfl, ⟨hmv w w' x (e2 x (hl x (by simp))), rfl⟩, ih fun y my => hl y (by simp [my])⟩
  have hzl : (zs.map el).length = zs.length := by simp
  rw [hzl] at hown
  have done : ∀ w' : World, w'.os = w.os → w'.tape = w.tape → w'.output = w.output → w.heap.size ≤ w'.heap.size → (∀ k, k < w.heap.size → ¬ q = some k → w'.heap[k]? = w.heap[k]?) → w'.ownsV 0 e 1 v0 d.length (d.map enc) → ∃ v n, Ending.returned (.tuple #[]) = .returned v ∧ ResR w' w.heap.size n [] v ∧ (∀ b, inQ z q b → n b) ∧ HandR w' n q (.row e 1 (d.map el)) v0 ∧ BelQ q w w' :=
    fun w' h1 h2 h3 h4 h5 h6 => ⟨_, inQ z q, rfl, ⟨[], [], ⟨rfl, rfl⟩, Own.nil _ _, rfl⟩, fun _ h => h, ⟨hflat d, by omega, hq, d.map enc, by simpa using h6, hre' w' d hsub⟩, ⟨h1, h2, h3, h4, h5⟩⟩
  rcases Nat.eq_zero_or_pos zs.length with h0 | h0
  · have hz0 : zs = [] := List.eq_nil_of_length_eq_zero h0
    have hd0 : d = [] := List.eq_nil_of_length_eq_zero (hd.trans h0)
    obtain ⟨A, cap, hv⟩ := own_val hown
    rw [h0] at hv
    subst hv
    refine (hN A cap w).mono ?_
    rintro e' w' ⟨rfl, rfl⟩
    exact done w' rfl rfl rfl (Nat.le_refl _) (fun _ _ _ => rfl) (by rw [hd0]; rw [hz0] at hown; exact hown)
  · rcases hown.2 with ⟨h', hl0⟩ | ⟨g, o, cap, cur, h', hb, hg, hnc, hcm, hcsz, htake⟩
    · omega
    · subst h'
      have hlt : g < w.heap.size := (Array.getElem?_eq_some_iff.1 hg).1
      have hcur : ∀ j, j < zs.length → cur[o + j]? = some (enc zs[j]!) := fun j hj => by
        have := congrArg (fun l => l[j]?) htake
        simp only [Nat.mul_one, List.getElem?_take, hj, if_true, List.getElem?_drop, Array.getElem?_toList, List.getElem?_map] at this
        rw [this]
        simp [List.getElem!_eq_getElem?_getD, hj]
      refine (hC g o cap w (fun j hj => ?_) hlt).mono ?_
      · have hj' : j < zs.length := by simpa using hj
        refine ⟨?_, by simp [World.frozen?, hg]⟩
        simp only [World.cell?, hg, Option.isSome_none, Bool.false_eq_true, if_false]
        rw [hcur j hj']
        simp [hj']
      · rintro e' w' ⟨rfl, n, os, rfl⟩
        have hh : (putRow enc (Sort.ahead w n) g o d.toArray).heap[g]? = some (.cells (putCells enc o d.toArray cur) e (0, 0)) := by
          simp only [putRow, mapBlock, heap_ahead, Array.getElem?_modify, if_true, hg, Option.map_some, onCells]
        refine done _ rfl rfl rfl (by simp) (fun k hk hqk => ?_) ⟨by simp, .inr ⟨g, o, cap, putCells enc o d.toArray cur, by rw [hd], by omega, ?_, by omega, hcm, by simpa [putCells] using hcsz, ?_⟩⟩
        · rw [heap_grow_old _ _ (by simpa using hk)]
          simp only [putRow, mapBlock, heap_ahead, Array.getElem?_modify]
          rw [if_neg (fun e => hqk (by rw [← hq]; simp [Value.ownBlock, e]))]
        · rw [heap_grow_old _ _ (by simpa using hlt)]; exact hh
        · apply List.ext_getElem?
          intro j
          simp only [Nat.mul_one, List.getElem?_take, List.getElem?_drop, List.getElem?_map, Array.getElem?_toList, putCells, Array.getElem?_mapIdx, List.size_toArray]
          by_cases hj : j < d.length
          · have hjc : o + j < cur.size := by omega
            simp [hj, hjc]
          · simp [hj]
end Go.Proofs.YtlkgkkacnoaeaaaGreatDoor

namespace Go.Proofs.YtlkgkkacnoaeaaaGreatDoor
open Go.RowKit Go.Sort
theorem sortStrings_H {J : World → Prop} {JF : Nat → Prop} {l r : List ByteArray} (h : x_sortStrings l = some r) : SoundH Tryz.prog J JF 146 (.row 9 1 (l.map eStr)) [] [] (.row 9 1 (r.map eStr)) := by
  obtain ⟨h1, h2⟩ := chk_K h
  obtain rfl := Option.some.inj h2
  have e1 : l.map eStr = (l.map toL).map fun x => eStr (ofL x) := by rw [List.map_map]; exact List.map_congr_left fun x _ => by simp [ofL_toL]
  have e2 : (sortB l).map eStr = ((l.map toL).mergeSort fun x y => decide (x ≤ y)).map fun x => eStr (ofL x) := by simp [sortB, List.map_map, Function.comp_def]
  rw [e1, e2]
  refine sort_hand encStr (fun x => eStr (ofL x)) (fun w x v L h => ?_) (fun w w' x h => h) (fun l => flatEs_map (fun _ => rfl) l) ⟨Tryz.f146, Tryz.func146, by kernel_rfl, by kernel_rfl⟩ (by simp) (fun x hx => by simpa using hx) (fun p cap w => Tryz.sort_Strings_none p cap w) (fun blk off cap w hH hb => Tryz.sort_Strings blk off cap (l.map toL) w hH hb (by simp; omega))
  obtain ⟨u, vs, L1, L2, rfl, rfl, q1, rfl, rfl⟩ := h
  rw [q1.1]
  rfl
end Go.Proofs.YtlkgkkacnoaeaaaGreatDoor

namespace Go.Proofs.YtlkgkkacnoaeaaaGreatDoor
open Go.RowKit
theorem atoi_S {J : World → Prop} (hJ : ∀ w, J w → ∃ tp p, w.var? Tryz.prog "strconv.ErrSyntax" = some #[.iface tp p]) {s : ByteArray} {r : Int × Bool} (h : x_Atoi s = some r) : Sound Tryz.prog J 159 [(false, [.str s])] [(false, [(false, .int .i64 r.1)]), (false, [(false, .ifc r.2)])] := by
  obtain ⟨h1, h2⟩ := chk_K h
  refine ⟨⟨Tryz.f159, Tryz.func159, by kernel_rfl, by kernel_rfl⟩, fun w z vs hj hz hargs => ?_⟩
  obtain ⟨v, L, rfl, rfl, _⟩ := args_one hargs
  cases ha : Lib.atoi (toL s) with
  | some n =>
    rw [ha] at h2
    obtain rfl := Option.some.inj h2
    refine (Tryz.strconv_Atoi s n h1 ha w).mono ?_
    rintro e w' ⟨rfl, t, rfl⟩
    exact ⟨_, z, rfl, resv_two ⟨⟨rfl, rfl⟩, rfl⟩ ⟨⟨rfl, rfl, rfl⟩, rfl⟩, fun b h => h, Lib.bytesWorld_below _ _ _⟩
  | none =>
    rw [ha] at h2
    obtain rfl := Option.some.inj h2
    obtain ⟨tp, p, hv⟩ := hJ w hj
    refine (Tryz.strconv_Atoi_err_var s h1 ha tp p w hv).mono ?_
    rintro e w' ⟨N, rfl, _, _, hb⟩
    exact ⟨_, z, rfl, resv_two ⟨⟨rfl, rfl⟩, rfl⟩ ⟨⟨rfl, rfl, _, _, rfl⟩, rfl⟩, fun b h => h, hb⟩
end Go.Proofs.YtlkgkkacnoaeaaaGreatDoor

namespace Go.Proofs.YtlkgkkacnoaeaaaGreatDoor
open Go.RowKit Go.Sort Go.Lib
theorem itoa_S {J : World → Prop} (hJ : ∀ w, J w → Lib.TabIs Tryz.prog w "internal/strconv.uint64pow10" .u64 Lib.pow10Tab) {n : Int} {r : ByteArray} (h : x_Itoa n = some r) : Sound Tryz.prog J 167 [(false, [.int .i64 n])] [(false, [(false, .str r)])] := by
  obtain ⟨h1, h2⟩ := chk_K h
  obtain rfl := Option.some.inj h2
  refine ⟨⟨Tryz.f167, Tryz.func167, by kernel_rfl, by kernel_rfl⟩, fun w z vs hj hz hargs => ?_⟩
  obtain ⟨v, L, rfl, rfl, _⟩ := args_one hargs
  refine (Tryz.strconv_Itoa n h1.1 h1.2 w (hJ w hj)).mono ?_
  rintro e w' ⟨rfl, k, os, rfl⟩
  refine ⟨_, z, rfl, resv_one ⟨⟨rfl, rfl, ?_⟩, rfl⟩, fun b h => h, below_grow _ _ (Nat.le_refl _) _ _⟩
  have := Lib.itoa_length_le n h1.1 h1.2
  show (Lib.itoa n).toArray.size ≤ _
  rw [List.size_toArray]
  omega
end Go.Proofs.YtlkgkkacnoaeaaaGreatDoor

namespace Go.Proofs.YtlkgkkacnoaeaaaGreatDoor
theorem x_Compare_ok {a b : ByteArray} {r : Int} (h : x_Compare a b = some r) : Sound Tryz.prog J0 118 [(false, [.str a]), (false, [.str b])] [(false, [(false, .int .i64 r)])] := compare_S h
theorem x_sortStrings_ok {l r : List ByteArray} (h : x_sortStrings l = some r) : SoundH Tryz.prog J0 JF0 146 (.row 9 1 (l.map eStr)) [] [] (.row 9 1 (r.map eStr)) := sortStrings_H h
theorem x_Atoi_ok {s : ByteArray} {r : Int × Bool} (h : x_Atoi s = some r) : Sound Tryz.prog J0 159 [(false, [.str s])] [(false, [(false, .int .i64 r.1)]), (false, [(false, .ifc r.2)])] := atoi_S j0_err h
theorem x_Itoa_ok {n : Int} {r : ByteArray} (h : x_Itoa n = some r) : Sound Tryz.prog J0 167 [(false, [.int .i64 n])] [(false, [(false, .str r)])] := itoa_S j0_pow h
end Go.Proofs.YtlkgkkacnoaeaaaGreatDoor

namespace Go.Proofs.YtlkgkkacnoaeaaaGreatDoor
open Go.Proofs.Tryz
set_option linter.unusedSimpArgs false
set_option linter.unusedVariables false
set_option maxRecDepth 1000000
set_option maxHeartbeats 4000000
theorem s_FindRule_ok {l_0 : (List RuleD)} {name_1 : ByteArray} {r : Int} (h : s_FindRule l_0 name_1 = some r) : Sound Tryz.prog J0 21 [(false, [.sl 52 4 (List.map eRule l_0)]), (false, [.str name_1])] [(false, [(false, .int .i64 r)])] := by
  refine fnk Tryz.func21 (by kernel_rfl) rfl (by kernel_rfl) (by kernel_rfl) ?_
  unfold s_FindRule at h
  simp only [fnS, f21, argSt, go_sem, seval]
  refine swp_for h (fun i _ st => IV [(0, .p false [.c (.sl 52 4 (List.map eRule l_0))]), (1, .p false [.c (.str name_1)]), (5, .p false [.c (.int .i64 ((i : Nat) : Int))])] [] st) [] [] (by decide) ?_ ?_ ?_
  · simp only [go_sem, seval, *]
  · rintro i4 x5 ⟨⟩ ⟨sl, ob, n⟩ y1 hx2 hI3 hW4 h hy1
    simp only [go_sem, seval, str_len] at hI3
    obtain ⟨⟨g5_0, g5_1, g5_5⟩, hn⟩ := hI3
    subst hn
    have hlhx2 := WF.slotL hW4 g5_0 (j := 0) rfl
    have q6 := lt_t hx2
    have q7 := lt_p hx2
    have q8 := nat_in (lt_n hx2) hlhx2
    try simp only [go_sem, seval, *]
    refine ite_K h (fun c9 h => ?_) (fun c9 h => ?_) <;> try simp only [go_sem, seval, *]
    · replace h := inr_K h hy1
      obtain rfl := Option.some.inj h
      try simp only [go_sem, seval, *]
    · refine ⟨_, [], [], (Option.some.inj h).symm, by decide, ?_⟩
      try simp only [go_sem, seval, *]
  · rintro ⟨⟩ ⟨sl, ob, n⟩ hI10 hW11 h
    simp only [go_sem, seval, str_len] at hI10
    obtain ⟨⟨g12_0, g12_1, g12_5⟩, hn⟩ := hI10
    subst hn
    have q13 := lt_f (l_0.length)
    obtain rfl := Option.some.inj h
    try simp only [go_sem, seval, *]
theorem s_l1In_ok {x_0 : Int} {least_1 : Int} {most_2 : Int} {r : Bool} (h : s_l1In x_0 least_1 most_2 = some r) : Sound Tryz.prog J0 94 [(false, [.int .i64 x_0]), (false, [.int .i64 least_1]), (false, [.int .i64 most_2])] [(false, [(false, .bool r)])] := by
  refine fnk Tryz.func94 (by kernel_rfl) rfl (by kernel_rfl) (by kernel_rfl) ?_
  unfold s_l1In at h
  simp only [fnS, f94, argSt, go_sem, seval]
  refine ite_K h (fun c1 h => ?_) (fun c1 h => ?_) <;> try simp only [go_sem, seval, *]
  · obtain rfl := Option.some.inj h
    try simp only [go_sem, seval, *]
  · obtain rfl := Option.some.inj h
    try simp only [go_sem, seval, *]
theorem s_l1Put_ok {l_0 : (List ByteArray)} {s_1 : ByteArray} {r : (List ByteArray)} (h : s_l1Put l_0 s_1 = some r) : Sound Tryz.prog J0 127 [(false, [.sl 9 1 (List.map eStr l_0)]), (false, [.str s_1])] [(false, [(false, .sl 9 1 (List.map eStr r))])] := by
  refine fnk Tryz.func127 (by kernel_rfl) rfl (by kernel_rfl) (by kernel_rfl) ?_
  unfold s_l1Put at h
  simp only [fnS, f127, argSt, go_sem, seval]
  refine swp_for h (fun i s st => match s with | (row_2, done_5) => IV [(0, .p false [.c (.sl 9 1 (List.map eStr l_0))]), (1, .p false [.c (.str s_1)]), (5, .p false [.row 0]), (6, .p false [.c (.bool done_5)]), (7, .p false [.c (.int .i64 ((i : Nat) : Int))])] [.row 9 1 (List.map eStr row_2) 2] st) [] [16] (by decide) ?_ ?_ ?_
  · simp only [go_sem, seval, *]
  · rintro i8 x9 ⟨row_2, done_5⟩ ⟨sl, ob, n⟩ y1 hx2 hI3 hW4 h hy1
    simp only [go_sem, seval, str_len] at hI3
    obtain ⟨⟨g5_0, g5_1, g5_5, g5_6, g5_7⟩, og5_0, hn⟩ := hI3
    subst hn
    have hlhx2 := WF.slotL hW4 g5_0 (j := 0) rfl
    have q6 := lt_t hx2
    have q7 := lt_p hx2
    have q8 := nat_in (lt_n hx2) hlhx2
    try simp only [go_sem, seval, *]
    refine ite_K h (fun c9 h => ?_) (fun c9 h => ?_) <;> try simp only [go_sem, seval, *]
    · obtain ⟨p10, h⟩ := chk_K h
      try simp only [Nat.reduceLeDiff] at p10
      try simp only [go_sem, seval, *]
      refine ⟨_, [], [321], (Option.some.inj h).symm, by decide, ?_⟩
      try simp only [go_sem, seval, *]
    · refine ite_K h (fun c11 h => ?_) (fun c11 h => ?_) <;> try simp only [go_sem, seval, *]
      · obtain ⟨p12, h⟩ := chk_K h
        try simp only [Nat.reduceLeDiff] at p12
        try simp only [go_sem, seval, *]
        refine ⟨_, [], [321], (Option.some.inj h).symm, by decide, ?_⟩
        try simp only [go_sem, seval, *]
      · refine ite_K h (fun c13 h => ?_) (fun c13 h => ?_) <;> try simp only [go_sem, seval, *]
        · obtain ⟨p14, h⟩ := chk_K h
          try simp only [Nat.reduceLeDiff] at p14
          try simp only [go_sem, seval, *]
          refine ⟨_, [], [433], (Option.some.inj h).symm, by decide, ?_⟩
          try simp only [go_sem, seval, *]
        · obtain ⟨p15, h⟩ := chk_K h
          try simp only [Nat.reduceLeDiff] at p15
          obtain ⟨p16, h⟩ := chk_K h
          try simp only [Nat.reduceLeDiff] at p16
          try simp only [go_sem, seval, *]
          refine ⟨_, [], [513], (Option.some.inj h).symm, by decide, ?_⟩
          try simp only [go_sem, seval, *]
  · rintro ⟨row_2, done_5⟩ ⟨sl, ob, n⟩ hI17 hW18 h
    simp only [go_sem, seval, str_len] at hI17
    obtain ⟨⟨g19_0, g19_1, g19_5, g19_6, g19_7⟩, og19_0, hn⟩ := hI17
    subst hn
    have q20 := lt_f (l_0.length)
    try simp only [go_sem, seval, *]
    refine ite_K h (fun c21 h => ?_) (fun c21 h => ?_) <;> try simp only [go_sem, seval, *]
    · obtain rfl := Option.some.inj h
      try simp only [go_sem, seval, *]
    · obtain ⟨p22, h⟩ := chk_K h
      try simp only [Nat.reduceLeDiff] at p22
      obtain rfl := Option.some.inj h
      try simp only [go_sem, seval, *]
theorem s_l1HasText_ok {l_0 : (List ByteArray)} {s_1 : ByteArray} {r : Bool} (h : s_l1HasText l_0 s_1 = some r) : Sound Tryz.prog J0 98 [(false, [.sl 9 1 (List.map eStr l_0)]), (false, [.str s_1])] [(false, [(false, .bool r)])] := by
  refine fnk Tryz.func98 (by kernel_rfl) rfl (by kernel_rfl) (by kernel_rfl) ?_
  unfold s_l1HasText at h
  simp only [fnS, f98, argSt, go_sem, seval]
  refine swp_for h (fun i _ st => IV [(0, .p false [.c (.sl 9 1 (List.map eStr l_0))]), (1, .p false [.c (.str s_1)]), (5, .p false [.c (.int .i64 ((i : Nat) : Int))])] [] st) [] [] (by decide) ?_ ?_ ?_
  · simp only [go_sem, seval, *]
  · rintro i4 x5 ⟨⟩ ⟨sl, ob, n⟩ y1 hx2 hI3 hW4 h hy1
    simp only [go_sem, seval, str_len] at hI3
    obtain ⟨⟨g5_0, g5_1, g5_5⟩, hn⟩ := hI3
    subst hn
    have hlhx2 := WF.slotL hW4 g5_0 (j := 0) rfl
    have q6 := lt_t hx2
    have q7 := lt_p hx2
    have q8 := nat_in (lt_n hx2) hlhx2
    try simp only [go_sem, seval, *]
    refine ite_K h (fun c9 h => ?_) (fun c9 h => ?_) <;> try simp only [go_sem, seval, *]
    · replace h := inr_K h hy1
      obtain rfl := Option.some.inj h
      try simp only [go_sem, seval, *]
    · refine ⟨_, [], [], (Option.some.inj h).symm, by decide, ?_⟩
      try simp only [go_sem, seval, *]
  · rintro ⟨⟩ ⟨sl, ob, n⟩ hI10 hW11 h
    simp only [go_sem, seval, str_len] at hI10
    obtain ⟨⟨g12_0, g12_1, g12_5⟩, hn⟩ := hI10
    subst hn
    have q13 := lt_f (l_0.length)
    obtain rfl := Option.some.inj h
    try simp only [go_sem, seval, *]
theorem s_l1Cmp_ok {a_0 : ByteArray} {b_1 : ByteArray} {r : Int} (h : s_l1Cmp a_0 b_1 = some r) : Sound Tryz.prog J0 104 [(false, [.str a_0]), (false, [.str b_1])] [(false, [(false, .int .i64 r)])] := by
  refine fnk Tryz.func104 (by kernel_rfl) rfl (by kernel_rfl) (by kernel_rfl) ?_
  unfold s_l1Cmp at h
  simp only [fnS, f104, argSt, go_sem, seval]
  refine ite_K h (fun c1 h => ?_) (fun c1 h => ?_) <;> try simp only [go_sem, seval, *]
  · obtain rfl := Option.some.inj h
    try simp only [go_sem, seval, *]
  · refine ite_K h (fun c2 h => ?_) (fun c2 h => ?_)
    · have c2' := c2
      try simp only [c1, Bool.false_or, Bool.or_false] at c2'
      obtain rfl := Option.some.inj h
      try simp only [go_sem, seval, *]
    · have c2' := c2
      try simp only [c1, Bool.false_or, Bool.or_false] at c2'
      obtain rfl := Option.some.inj h
      try simp only [go_sem, seval, *]
theorem s_FormatInt_0_ok {n_0 : Int} {r : ByteArray} (h : s_FormatInt_0 n_0 = some r) : Sound Tryz.prog J0 156 [(false, [.int .i64 n_0])] [(false, [(false, .str r)])] := by
  refine fnk Tryz.func156 (by kernel_rfl) rfl (by kernel_rfl) (by kernel_rfl) ?_
  unfold s_FormatInt_0 at h
  have ks0 : strOk ⟨#[45, 57, 50, 50, 51, 51, 55, 50, 48, 51, 54, 56, 53, 52, 55, 55, 53, 56, 48, 56]⟩ = true := by decide
  have ks1 : strOk ⟨#[]⟩ = true := by decide
  have kz0 : ¬ ((10 : Int) = 0) := by decide
  simp only [fnS, f156, argSt, go_sem, seval, ks0, ks1, kz0]
  refine ite_K h (fun c1 h => ?_) (fun c1 h => ?_) <;> try simp only [go_sem, seval, *]
  · obtain rfl := Option.some.inj h
    try simp only [go_sem, seval, *]
  · refine ite_K h (fun c2 h => ?_) (fun c2 h => ?_) <;> try simp only [go_sem, seval, *]
    · cases h
    · refine swp_iter h (fun s st => match s with | (n_1, s_2) => IV [(0, .p false [.c (.int .i64 n_1)]), (3, .p false [.c (.str s_2)])] [] st) [] [] (by decide) ?_ ?_
      · simp only [go_sem, seval, *]
      · rintro ⟨n_1, s_2⟩ ⟨sl, ob, n⟩ y3 hI4 hW5 h hy3
        simp only [go_sem, seval, str_len] at hI4
        obtain ⟨⟨g6_0, g6_3⟩, hn⟩ := hI4
        subst hn
        obtain ⟨p7, h⟩ := chk_K h
        try simp only [Nat.reduceLeDiff] at p7
        try simp only [go_sem] at p7
        try simp only [go_sem, seval, *]
        refine ite_K h (fun c8 h => ?_) (fun c8 h => ?_) <;> try simp only [go_sem, seval, *]
        · replace h := inr_K h hy3
          obtain rfl := Option.some.inj h
          try simp only [go_sem, seval, *]
        · refine ⟨_, [], [], (Option.some.inj h).symm, by decide, ?_⟩
          try simp only [go_sem, seval, *]
theorem s_FormatInt_ok {n_0 : Int} {r : ByteArray} (h : s_FormatInt n_0 = some r) : Sound Tryz.prog J0 156 [(false, [.int .i64 n_0])] [(false, [(false, .str r)])] := by
  refine fnk Tryz.func156 (by kernel_rfl) rfl (by kernel_rfl) (by kernel_rfl) ?_
  unfold s_FormatInt at h
  have ks0 : strOk ⟨#[45, 57, 50, 50, 51, 51, 55, 50, 48, 51, 54, 56, 53, 52, 55, 55, 53, 56, 48, 56]⟩ = true := by decide
  have ks1 : strOk ⟨#[45]⟩ = true := by decide
  have ks2 : strOk ⟨#[]⟩ = true := by decide
  have kz0 : ¬ ((10 : Int) = 0) := by decide
  simp only [fnS, f156, argSt, go_sem, seval, ks0, ks1, ks2, kz0]
  refine ite_K h (fun c1 h => ?_) (fun c1 h => ?_) <;> try simp only [go_sem, seval, *]
  · obtain rfl := Option.some.inj h
    try simp only [go_sem, seval, *]
  · refine ite_K h (fun c2 h => ?_) (fun c2 h => ?_) <;> try simp only [go_sem, seval, *]
    · obtain ⟨v1, e3, h⟩ := bind_K h
      refine call_K (by have hh := s_FormatInt_0_ok e3; first | exact hh | (simp only [go_sem, *] at hh; exact hh)) ?_
      obtain ⟨p4, h⟩ := chk_K h
      try simp only [Nat.reduceLeDiff] at p4
      try simp only [go_sem] at p4
      obtain rfl := Option.some.inj h
      try simp only [go_sem, seval, *]
    · refine swp_iter h (fun s st => match s with | (n_2, s_3) => IV [(0, .p false [.c (.int .i64 n_2)]), (3, .p false [.c (.str s_3)])] [] st) [] [] (by decide) ?_ ?_
      · simp only [go_sem, seval, *]
      · rintro ⟨n_2, s_3⟩ ⟨sl, ob, n⟩ y5 hI6 hW7 h hy5
        simp only [go_sem, seval, str_len] at hI6
        obtain ⟨⟨g8_0, g8_3⟩, hn⟩ := hI6
        subst hn
        obtain ⟨p9, h⟩ := chk_K h
        try simp only [Nat.reduceLeDiff] at p9
        try simp only [go_sem] at p9
        try simp only [go_sem, seval, *]
        refine ite_K h (fun c10 h => ?_) (fun c10 h => ?_) <;> try simp only [go_sem, seval, *]
        · replace h := inr_K h hy5
          obtain rfl := Option.some.inj h
          try simp only [go_sem, seval, *]
        · refine ⟨_, [], [], (Option.some.inj h).symm, by decide, ?_⟩
          try simp only [go_sem, seval, *]
theorem s_l1Texts_ok {l_0 : (List ByteArray)} {r : (List ByteArray)} (h : s_l1Texts l_0 = some r) : Sound Tryz.prog J0 129 [(false, [.sl 9 1 (List.map eStr l_0)])] [(false, [(false, .sl 9 1 (List.map eStr r))])] := by
  refine fnk Tryz.func129 (by kernel_rfl) rfl (by kernel_rfl) (by kernel_rfl) ?_
  unfold s_l1Texts at h
  simp only [fnS, f129, argSt, go_sem, seval]
  obtain ⟨p1, h⟩ := chk_K h
  try simp only [Nat.reduceLeDiff] at p1
  obtain rfl := Option.some.inj h
  try simp only [go_sem, seval, *]
theorem s_l3Copy_ok {b_0 : (List PairD)} {r : (List PairD)} (h : s_l3Copy b_0 = some r) : Sound Tryz.prog J0 152 [(false, [.sl 119 2 (List.map ePair b_0)])] [(false, [(false, .sl 119 2 (List.map ePair r))])] := by
  refine fnk Tryz.func152 (by kernel_rfl) rfl (by kernel_rfl) (by kernel_rfl) ?_
  unfold s_l3Copy at h
  simp only [fnS, f152, argSt, go_sem, seval]
  obtain ⟨p1, h⟩ := chk_K h
  try simp only [Nat.reduceLeDiff] at p1
  obtain rfl := Option.some.inj h
  try simp only [go_sem, seval, *]
theorem s_l3Set_ok {b_0 : (List PairD)} {v_1 : ByteArray} {value_2 : ByteArray} {r : (List PairD)} (h : s_l3Set b_0 v_1 value_2 = some r) : Sound Tryz.prog J0 162 [(false, [.sl 119 2 (List.map ePair b_0)]), (false, [.str v_1]), (false, [.str value_2])] [(false, [(false, .sl 119 2 (List.map ePair r))])] := by
  refine fnk Tryz.func162 (by kernel_rfl) rfl (by kernel_rfl) (by kernel_rfl) ?_
  unfold s_l3Set at h
  simp only [fnS, f162, argSt, go_sem, seval]
  refine swp_for h (fun i s st => match s with | (row_2, done_5) => IV [(0, .p false [.c (.sl 119 2 (List.map ePair b_0))]), (1, .p false [.c (.str v_1)]), (2, .p false [.c (.str value_2)]), (7, .p false [.row 0]), (8, .p false [.c (.bool done_5)]), (9, .p false [.c (.int .i64 ((i : Nat) : Int))])] [.row 119 2 (List.map ePair row_2) 2] st) [] [16] (by decide) ?_ ?_ ?_
  · simp only [go_sem, seval, *]
  · rintro i8 x9 ⟨row_2, done_5⟩ ⟨sl, ob, n⟩ y1 hx2 hI3 hW4 h hy1
    simp only [go_sem, seval, str_len] at hI3
    obtain ⟨⟨g5_0, g5_1, g5_2, g5_7, g5_8, g5_9⟩, og5_0, hn⟩ := hI3
    subst hn
    have hlhx2 := WF.slotL hW4 g5_0 (j := 0) rfl
    have q6 := lt_t hx2
    have q7 := lt_p hx2
    have q8 := nat_in (lt_n hx2) hlhx2
    try simp only [go_sem, seval, *]
    refine ite_K h (fun c9 h => ?_) (fun c9 h => ?_) <;> try simp only [go_sem, seval, *]
    · obtain ⟨p10, h⟩ := chk_K h
      try simp only [Nat.reduceLeDiff] at p10
      try simp only [go_sem, seval, *]
      refine ⟨_, [], [337], (Option.some.inj h).symm, by decide, ?_⟩
      try simp only [go_sem, seval, *]
    · refine ite_K h (fun c11 h => ?_) (fun c11 h => ?_)
      · have c11' := c11
        try simp only [c9, Bool.false_or, Bool.or_false] at c11'
        obtain ⟨p12, h⟩ := chk_K h
        try simp only [Nat.reduceLeDiff] at p12
        try simp only [go_sem, seval, *]
        refine ⟨_, [], [337], (Option.some.inj h).symm, by decide, ?_⟩
        try simp only [go_sem, seval, *]
      · have c11' := c11
        try simp only [c9, Bool.false_or, Bool.or_false] at c11'
        obtain ⟨p13, h⟩ := chk_K h
        try simp only [Nat.reduceLeDiff] at p13
        obtain ⟨p14, h⟩ := chk_K h
        try simp only [Nat.reduceLeDiff] at p14
        try simp only [go_sem, seval, *]
        refine ⟨_, [], [465], (Option.some.inj h).symm, by decide, ?_⟩
        try simp only [go_sem, seval, *]
  · rintro ⟨row_2, done_5⟩ ⟨sl, ob, n⟩ hI15 hW16 h
    simp only [go_sem, seval, str_len] at hI15
    obtain ⟨⟨g17_0, g17_1, g17_2, g17_7, g17_8, g17_9⟩, og17_0, hn⟩ := hI15
    subst hn
    have q18 := lt_f (b_0.length)
    try simp only [go_sem, seval, *]
    refine ite_K h (fun c19 h => ?_) (fun c19 h => ?_) <;> try simp only [go_sem, seval, *]
    · obtain rfl := Option.some.inj h
      try simp only [go_sem, seval, *]
    · obtain ⟨p20, h⟩ := chk_K h
      try simp only [Nat.reduceLeDiff] at p20
      obtain rfl := Option.some.inj h
      try simp only [go_sem, seval, *]
theorem i_IsAtom_ok {s_0 : ByteArray} {r : Bool} (h : i_IsAtom s_0 = some r) : Sound Tryz.prog J0 117 [(false, [.str s_0])] [(false, [(false, .bool r)])] := by
  refine fnk Tryz.func117 (by kernel_rfl) rfl (by kernel_rfl) (by kernel_rfl) ?_
  unfold i_IsAtom at h
  simp only [fnS, f117, argSt, go_sem, seval]
  refine ite_K h (fun c1 h => ?_) (fun c1 h => ?_) <;> try simp only [go_sem, seval, *]
  · obtain rfl := Option.some.inj h
    try simp only [go_sem, seval, *]
  · refine ite_K h (fun c2 h => ?_) (fun c2 h => ?_) <;> try simp only [go_sem, seval, *]
    · obtain rfl := Option.some.inj h
      try simp only [go_sem, seval, *]
    · refine swp_for h (fun i _ st => IV [(0, .p false [.c (.str s_0)]), (3, .p false [.c (.int .i64 ((i : Nat) : Int))])] [] st) [] [] (by decide) ?_ ?_ ?_
      · simp only [go_sem, seval, *]
      · rintro i4 x5 ⟨⟩ ⟨sl, ob, n⟩ y3 hx4 hI5 hW6 h hy3
        simp only [go_sem, seval, str_len] at hI5
        obtain ⟨⟨g7_0, g7_3⟩, hn⟩ := hI5
        subst hn
        have hlhx4 := WF.slotS hW6 g7_0 (j := 0) rfl
        have q8 := str_at hx4
        have q9 := slt_t hx4
        have q10 := nat_in (slt_n hx4) hlhx4
        try simp only [go_sem, seval, *]
        refine ite_K h (fun c11 h => ?_) (fun c11 h => ?_) <;> try simp only [go_sem, seval, *]
        · refine ite_K h (fun c12 h => ?_) (fun c12 h => ?_) <;> try simp only [go_sem, seval, *]
          · replace h := inr_K h hy3
            obtain rfl := Option.some.inj h
            try simp only [go_sem, seval, *]
          · refine ite_K h (fun c13 h => ?_) (fun c13 h => ?_) <;> try simp only [go_sem, seval, *]
            · replace h := inr_K h hy3
              obtain rfl := Option.some.inj h
              try simp only [go_sem, seval, *]
            · refine ⟨_, [], [], (Option.some.inj h).symm, by decide, ?_⟩
              try simp only [go_sem, seval, *]
        · refine ite_K h (fun c14 h => ?_) (fun c14 h => ?_) <;> try simp only [go_sem, seval, *]
          · refine ite_K h (fun c15 h => ?_) (fun c15 h => ?_) <;> try simp only [go_sem, seval, *]
            · replace h := inr_K h hy3
              obtain rfl := Option.some.inj h
              try simp only [go_sem, seval, *]
            · refine ite_K h (fun c16 h => ?_) (fun c16 h => ?_) <;> try simp only [go_sem, seval, *]
              · replace h := inr_K h hy3
                obtain rfl := Option.some.inj h
                try simp only [go_sem, seval, *]
              · refine ⟨_, [], [], (Option.some.inj h).symm, by decide, ?_⟩
                try simp only [go_sem, seval, *]
          · refine ⟨_, [], [], (Option.some.inj h).symm, by decide, ?_⟩
            try simp only [go_sem, seval, *]
      · rintro ⟨⟩ ⟨sl, ob, n⟩ hI17 hW18 h
        simp only [go_sem, seval, str_len] at hI17
        obtain ⟨⟨g19_0, g19_3⟩, hn⟩ := hI17
        subst hn
        have q20 := lt_f (s_0.size)
        obtain rfl := Option.some.inj h
        try simp only [go_sem, seval, *]
theorem i_zeroPattern_ok {p_0 : PatternD} {r : Bool} (h : i_zeroPattern p_0 = some r) : Sound Tryz.prog J0 144 [(true, ePattern p_0)] [(false, [(false, .bool r)])] := by
  refine fnk Tryz.func144 (by kernel_rfl) rfl (by kernel_rfl) (by kernel_rfl) ?_
  unfold i_zeroPattern at h
  have ks0 : strOk ⟨#[]⟩ = true := by decide
  simp only [fnS, f144, argSt, go_sem, seval, ks0]
  refine ite_K h (fun c1 h => ?_) (fun c1 h => ?_) <;> try simp only [go_sem, seval, *]
  · obtain rfl := Option.some.inj h
    try simp only [go_sem, seval, *]
  · obtain rfl := Option.some.inj h
    try simp only [go_sem, seval, *]
theorem i_SortedTexts_ok {l_0 : (List ByteArray)} {r : (List ByteArray)} (h : i_SortedTexts l_0 = some r) : Sound Tryz.prog J0 115 [(false, [.sl 9 1 (List.map eStr l_0)])] [(false, [(false, .sl 9 1 (List.map eStr r))])] := by
  refine fnk Tryz.func115 (by kernel_rfl) rfl (by kernel_rfl) (by kernel_rfl) ?_
  unfold i_SortedTexts at h
  simp only [fnS, f115, argSt, go_sem, seval]
  obtain ⟨p1, h⟩ := chk_K h
  try simp only [Nat.reduceLeDiff] at p1
  try simp only [go_sem, seval, *]
  obtain ⟨v1, e2, h⟩ := bind_K h
  refine hand_K (by have hh := x_sortStrings_ok e2; first | exact hh | (simp only [go_sem, *] at hh; exact hh)) ?_
  try simp only [go_sem, seval, *]
  refine swp_for h (fun i row_4 st => IV [(3, .p false [.row 0]), (4, .p false [.row 1]), (11, .p false [.row 0]), (12, .p false [.c (.int .i64 ((v1.length : Nat) : Int))]), (13, .p false [.c (.int .i64 ((i : Nat) : Int))])] [.row 9 1 (List.map eStr v1) 2, .row 9 1 (List.map eStr row_4) 2] st) [(false, 4, 0)] [32, 160] (by decide) ?_ ?_ ?_
  · simp only [go_sem, seval, *]
  · rintro i8 x9 row_4 ⟨sl, ob, n⟩ y3 hx4 hI5 hW6 h hy3
    simp only [go_sem, seval, str_len] at hI5
    obtain ⟨⟨g7_3, g7_4, g7_11, g7_12, g7_13⟩, og7_0, og7_1, hn⟩ := hI5
    subst hn
    have hlhx4 := WF.rowL hW6 og7_0
    have q8 := lt_t hx4
    have q9 := lt_p hx4
    have q10 := nat_in (lt_n hx4) hlhx4
    try simp only [go_sem, seval, *]
    refine ite_K h (fun c11 h => ?_) (fun c11 h => ?_) <;> try simp only [go_sem, seval, *]
    · obtain ⟨p12, h⟩ := chk_K h
      try simp only [Nat.reduceLeDiff] at p12
      try simp only [go_sem, seval, *]
      refine ⟨_, [], [0, 322], (Option.some.inj h).symm, by decide, ?_⟩
      try simp only [go_sem, seval, *]
    · obtain ⟨p13, h⟩ := chk_K h
      obtain ⟨x10, e14, h⟩ := bind_K h
      try simp only [go_sem, seval, *]
      refine ite_K h (fun c15 h => ?_) (fun c15 h => ?_) <;> try simp only [go_sem, seval, *]
      · refine ⟨_, [], [0, 1], (Option.some.inj h).symm, by decide, ?_⟩
        try simp only [go_sem, seval, *]
      · obtain ⟨p16, h⟩ := chk_K h
        try simp only [Nat.reduceLeDiff] at p16
        try simp only [go_sem, seval, *]
        refine ⟨_, [], [0, 322], (Option.some.inj h).symm, by decide, ?_⟩
        try simp only [go_sem, seval, *]
  · rintro row_4 ⟨sl, ob, n⟩ hI17 hW18 h
    simp only [go_sem, seval, str_len] at hI17
    obtain ⟨⟨g19_3, g19_4, g19_11, g19_12, g19_13⟩, og19_0, og19_1, hn⟩ := hI17
    subst hn
    have q20 := lt_f (v1.length)
    obtain rfl := Option.some.inj h
    try simp only [go_sem, seval, *]
theorem i_hasText_ok {l_0 : (List ByteArray)} {s_1 : ByteArray} {r : Bool} (h : i_hasText l_0 s_1 = some r) : Sound Tryz.prog J0 114 [(false, [.sl 9 1 (List.map eStr l_0)]), (false, [.str s_1])] [(false, [(false, .bool r)])] := by
  refine fnk Tryz.func114 (by kernel_rfl) rfl (by kernel_rfl) (by kernel_rfl) ?_
  unfold i_hasText at h
  simp only [fnS, f114, argSt, go_sem, seval]
  refine swp_for h (fun i _ st => IV [(1, .p false [.c (.str s_1)]), (7, .p false [.c (.sl 9 1 (List.map eStr l_0))]), (8, .p false [.c (.int .i64 ((l_0.length : Nat) : Int))]), (9, .p false [.c (.int .i64 ((i : Nat) : Int))])] [] st) [] [] (by decide) ?_ ?_ ?_
  · simp only [go_sem, seval, *]
  · rintro i4 x5 ⟨⟩ ⟨sl, ob, n⟩ y1 hx2 hI3 hW4 h hy1
    simp only [go_sem, seval, str_len] at hI3
    obtain ⟨⟨g5_1, g5_7, g5_8, g5_9⟩, hn⟩ := hI3
    subst hn
    have hlhx2 := WF.slotL hW4 g5_7 (j := 0) rfl
    have q6 := lt_t hx2
    have q7 := lt_p hx2
    have q8 := nat_in (lt_n hx2) hlhx2
    try simp only [go_sem, seval, *]
    refine ite_K h (fun c9 h => ?_) (fun c9 h => ?_) <;> try simp only [go_sem, seval, *]
    · replace h := inr_K h hy1
      obtain rfl := Option.some.inj h
      try simp only [go_sem, seval, *]
    · refine ⟨_, [], [], (Option.some.inj h).symm, by decide, ?_⟩
      try simp only [go_sem, seval, *]
  · rintro ⟨⟩ ⟨sl, ob, n⟩ hI10 hW11 h
    simp only [go_sem, seval, str_len] at hI10
    obtain ⟨⟨g12_1, g12_7, g12_8, g12_9⟩, hn⟩ := hI10
    subst hn
    have q13 := lt_f (l_0.length)
    obtain rfl := Option.some.inj h
    try simp only [go_sem, seval, *]
theorem i_copyTexts_ok {l_0 : (List ByteArray)} {r : (List ByteArray)} (h : i_copyTexts l_0 = some r) : Sound Tryz.prog J0 136 [(false, [.sl 9 1 (List.map eStr l_0)])] [(false, [(false, .sl 9 1 (List.map eStr r))])] := by
  refine fnk Tryz.func136 (by kernel_rfl) rfl (by kernel_rfl) (by kernel_rfl) ?_
  unfold i_copyTexts at h
  simp only [fnS, f136, argSt, go_sem, seval]
  obtain ⟨p1, h⟩ := chk_K h
  try simp only [Nat.reduceLeDiff] at p1
  obtain rfl := Option.some.inj h
  try simp only [go_sem, seval, *]
theorem i_FindRule_ok {l_0 : (List RuleD)} {name_1 : ByteArray} {r : Int} (h : i_FindRule l_0 name_1 = some r) : Sound Tryz.prog J0 65 [(false, [.sl 52 4 (List.map eRule l_0)]), (false, [.str name_1])] [(false, [(false, .int .i64 r)])] := by
  refine fnk Tryz.func65 (by kernel_rfl) rfl (by kernel_rfl) (by kernel_rfl) ?_
  unfold i_FindRule at h
  simp only [fnS, f65, argSt, go_sem, seval]
  refine swp_for h (fun i _ st => IV [(1, .p false [.c (.str name_1)]), (7, .p false [.c (.sl 52 4 (List.map eRule l_0))]), (8, .p false [.c (.int .i64 ((l_0.length : Nat) : Int))]), (9, .p false [.c (.int .i64 ((i : Nat) : Int))])] [] st) [] [] (by decide) ?_ ?_ ?_
  · simp only [go_sem, seval, *]
  · rintro i4 x5 ⟨⟩ ⟨sl, ob, n⟩ y1 hx2 hI3 hW4 h hy1
    simp only [go_sem, seval, str_len] at hI3
    obtain ⟨⟨g5_1, g5_7, g5_8, g5_9⟩, hn⟩ := hI3
    subst hn
    have hlhx2 := WF.slotL hW4 g5_7 (j := 0) rfl
    have q6 := lt_t hx2
    have q7 := lt_p hx2
    have q8 := nat_in (lt_n hx2) hlhx2
    try simp only [go_sem, seval, *]
    refine ite_K h (fun c9 h => ?_) (fun c9 h => ?_) <;> try simp only [go_sem, seval, *]
    · replace h := inr_K h hy1
      obtain rfl := Option.some.inj h
      try simp only [go_sem, seval, *]
    · refine ⟨_, [], [], (Option.some.inj h).symm, by decide, ?_⟩
      try simp only [go_sem, seval, *]
  · rintro ⟨⟩ ⟨sl, ob, n⟩ hI10 hW11 h
    simp only [go_sem, seval, str_len] at hI10
    obtain ⟨⟨g12_1, g12_7, g12_8, g12_9⟩, hn⟩ := hI10
    subst hn
    have q13 := lt_f (l_0.length)
    obtain rfl := Option.some.inj h
    try simp only [go_sem, seval, *]
theorem i_compareInts_ok {a_0 : Int} {b_1 : Int} {r : Int} (h : i_compareInts a_0 b_1 = some r) : Sound Tryz.prog J0 120 [(false, [.int .i64 a_0]), (false, [.int .i64 b_1])] [(false, [(false, .int .i64 r)])] := by
  refine fnk Tryz.func120 (by kernel_rfl) rfl (by kernel_rfl) (by kernel_rfl) ?_
  unfold i_compareInts at h
  simp only [fnS, f120, argSt, go_sem, seval]
  refine ite_K h (fun c1 h => ?_) (fun c1 h => ?_) <;> try simp only [go_sem, seval, *]
  · obtain rfl := Option.some.inj h
    try simp only [go_sem, seval, *]
  · refine ite_K h (fun c2 h => ?_) (fun c2 h => ?_) <;> try simp only [go_sem, seval, *]
    · obtain rfl := Option.some.inj h
      try simp only [go_sem, seval, *]
    · obtain rfl := Option.some.inj h
      try simp only [go_sem, seval, *]
theorem i_FormatInt_ok {n_0 : Int} {r : ByteArray} (h : i_FormatInt n_0 = some r) : Sound Tryz.prog J0 160 [(false, [.int .i64 n_0])] [(false, [(false, .str r)])] := by
  refine fnk Tryz.func160 (by kernel_rfl) rfl (by kernel_rfl) (by kernel_rfl) ?_
  unfold i_FormatInt at h
  have ks0 : strOk ⟨#[]⟩ = true := by decide
  simp only [fnS, f160, argSt, go_sem, seval, ks0]
  obtain ⟨v1, e1, h⟩ := bind_K h
  refine call_K (by have hh := x_Itoa_ok e1; first | exact hh | (simp only [go_sem, *] at hh; exact hh)) ?_
  obtain rfl := Option.some.inj h
  try simp only [go_sem, seval, *]
theorem i_copyPairs_ok {b_0 : (List PairD)} {r : (List PairD)} (h : i_copyPairs b_0 = some r) : Sound Tryz.prog J0 139 [(false, [.sl 119 2 (List.map ePair b_0)])] [(false, [(false, .sl 119 2 (List.map ePair r))])] := by
  refine fnk Tryz.func139 (by kernel_rfl) rfl (by kernel_rfl) (by kernel_rfl) ?_
  unfold i_copyPairs at h
  simp only [fnS, f139, argSt, go_sem, seval]
  obtain ⟨p1, h⟩ := chk_K h
  try simp only [Nat.reduceLeDiff] at p1
  obtain rfl := Option.some.inj h
  try simp only [go_sem, seval, *]
theorem i_sameTexts_ok {a_0 : (List ByteArray)} {b_1 : (List ByteArray)} {r : Bool} (h : i_sameTexts a_0 b_1 = some r) : Sound Tryz.prog J0 123 [(false, [.sl 9 1 (List.map eStr a_0)]), (false, [.sl 9 1 (List.map eStr b_1)])] [(false, [(false, .bool r)])] := by
  refine fnk Tryz.func123 (by kernel_rfl) rfl (by kernel_rfl) (by kernel_rfl) ?_
  unfold i_sameTexts at h
  simp only [fnS, f123, argSt, go_sem, seval]
  refine ite_K h (fun c1 h => ?_) (fun c1 h => ?_) <;> try simp only [go_sem, seval, *]
  · obtain rfl := Option.some.inj h
    try simp only [go_sem, seval, *]
  · refine swp_for h (fun i _ st => IV [(0, .p false [.c (.sl 9 1 (List.map eStr a_0))]), (1, .p false [.c (.sl 9 1 (List.map eStr b_1))]), (12, .p false [.c (.int .i64 ((a_0.length : Nat) : Int))]), (13, .p false [.c (.int .i64 ((i : Nat) : Int))])] [] st) [] [] (by decide) ?_ ?_ ?_
    · simp only [go_sem, seval, *]
    · rintro i6 x7 ⟨⟩ ⟨sl, ob, n⟩ y2 hx3 hI4 hW5 h hy2
      simp only [go_sem, seval, str_len] at hI4
      obtain ⟨⟨g6_0, g6_1, g6_12, g6_13⟩, hn⟩ := hI4
      subst hn
      have hlhx3 := WF.slotL hW5 g6_0 (j := 0) rfl
      have q7 := lt_t hx3
      have q8 := lt_p hx3
      have q9 := nat_in (lt_n hx3) hlhx3
      obtain ⟨x8, a10, a11, e12, h⟩ := at_K h
      simp only [Int.toNat_natCast] at e12
      try simp only [go_sem, seval, *]
      refine ite_K h (fun c13 h => ?_) (fun c13 h => ?_) <;> try simp only [go_sem, seval, *]
      · refine ⟨_, [], [], (Option.some.inj h).symm, by decide, ?_⟩
        try simp only [go_sem, seval, *]
      · replace h := inr_K h hy2
        obtain rfl := Option.some.inj h
        try simp only [go_sem, seval, *]
    · rintro ⟨⟩ ⟨sl, ob, n⟩ hI14 hW15 h
      simp only [go_sem, seval, str_len] at hI14
      obtain ⟨⟨g16_0, g16_1, g16_12, g16_13⟩, hn⟩ := hI14
      subst hn
      have q17 := lt_f (a_0.length)
      obtain rfl := Option.some.inj h
      try simp only [go_sem, seval, *]
theorem s_l14Positive_ok {r_0 : RuleD} {r : (List CondD)} (h : s_l14Positive r_0 = some r) : Sound Tryz.prog J0 38 [(true, eRule r_0)] [(false, [(true, .sl 99 5 (List.map eCond r))])] := by
  refine fnk Tryz.func38 (by kernel_rfl) rfl (by kernel_rfl) (by kernel_rfl) ?_
  unfold s_l14Positive at h
  simp only [fnS, f38, argSt, go_sem, seval]
  refine swp_for h (fun i row_3 st => IV [(1, .bp 0 0), (3, .p false [.row 1]), (4, .p false [.c (.int .i64 ((i : Nat) : Int))])] [.box 52 [.c (.str r_0.name), .c (.int .i64 r_0.priority), .c (.sl 99 5 (List.map eCond r_0.cond)), .c (.sl 62 3 (List.map eAction r_0.thn))], .row 99 5 (List.map eCond row_3) 1] st) [(true, 32, 1)] [0, 32] (by decide) ?_ ?_ ?_
  · simp only [go_sem, seval, *]
  · rintro i6 x7 row_3 ⟨sl, ob, n⟩ y1 hx2 hI3 hW4 h hy1
    simp only [go_sem, seval, str_len] at hI3
    obtain ⟨⟨g5_1, g5_3, g5_4⟩, og5_0, og5_1, hn⟩ := hI3
    subst hn
    have hlhx2 := WF.boxL hW4 og5_0 (j := 2) rfl
    have q6 := lt_t hx2
    have q7 := lt_p hx2
    have q8 := nat_in (lt_n hx2) hlhx2
    try simp only [go_sem, seval, *]
    refine ite_K h (fun c9 h => ?_) (fun c9 h => ?_) <;> try simp only [go_sem, seval, *]
    · obtain ⟨p10, h⟩ := chk_K h
      try simp only [Nat.reduceLeDiff] at p10
      try simp only [go_sem, seval, *]
      refine ⟨_, [], [0, 306], (Option.some.inj h).symm, by decide, ?_⟩
      try simp only [go_sem, seval, *]
    · refine ⟨_, [], [0, 1], (Option.some.inj h).symm, by decide, ?_⟩
      try simp only [go_sem, seval, *]
  · rintro row_3 ⟨sl, ob, n⟩ hI11 hW12 h
    simp only [go_sem, seval, str_len] at hI11
    obtain ⟨⟨g13_1, g13_3, g13_4⟩, og13_0, og13_1, hn⟩ := hI11
    subst hn
    have q14 := lt_f (r_0.cond.length)
    obtain rfl := Option.some.inj h
    try simp only [go_sem, seval, *]
theorem i_onlyAdds_ok {r_0 : RuleD} {r : Bool} (h : i_onlyAdds r_0 = some r) : Sound Tryz.prog J0 133 [(true, eRule r_0)] [(false, [(false, .bool r)])] := by
  refine fnk Tryz.func133 (by kernel_rfl) rfl (by kernel_rfl) (by kernel_rfl) ?_
  unfold i_onlyAdds at h
  simp only [fnS, f133, argSt, go_sem, seval]
  refine swp_for h (fun i _ st => IV [(6, .p false [.c (.sl 62 3 (List.map eAction r_0.thn))]), (7, .p false [.c (.int .i64 ((r_0.thn.length : Nat) : Int))]), (8, .p false [.c (.int .i64 ((i : Nat) : Int))])] [] st) [] [] (by decide) ?_ ?_ ?_
  · simp only [go_sem, seval, *]
  · rintro i4 x5 ⟨⟩ ⟨sl, ob, n⟩ y1 hx2 hI3 hW4 h hy1
    simp only [go_sem, seval, str_len] at hI3
    obtain ⟨⟨g5_6, g5_7, g5_8⟩, hn⟩ := hI3
    subst hn
    have hlhx2 := WF.slotL hW4 g5_6 (j := 0) rfl
    have q6 := lt_t hx2
    have q7 := lt_p hx2
    have q8 := nat_in (lt_n hx2) hlhx2
    try simp only [go_sem, seval, *]
    refine ite_K h (fun c9 h => ?_) (fun c9 h => ?_) <;> try simp only [go_sem, seval, *]
    · replace h := inr_K h hy1
      obtain rfl := Option.some.inj h
      try simp only [go_sem, seval, *]
    · refine ⟨_, [], [], (Option.some.inj h).symm, by decide, ?_⟩
      try simp only [go_sem, seval, *]
  · rintro ⟨⟩ ⟨sl, ob, n⟩ hI10 hW11 h
    simp only [go_sem, seval, str_len] at hI10
    obtain ⟨⟨g12_6, g12_7, g12_8⟩, hn⟩ := hI10
    subst hn
    have q13 := lt_f (r_0.thn.length)
    obtain rfl := Option.some.inj h
    try simp only [go_sem, seval, *]
theorem i_withoutNots_ok {r_0 : RuleD} {r : (List CondD)} (h : i_withoutNots r_0 = some r) : Sound Tryz.prog J0 43 [(true, eRule r_0)] [(false, [(true, .sl 99 5 (List.map eCond r))])] := by
  refine fnk Tryz.func43 (by kernel_rfl) rfl (by kernel_rfl) (by kernel_rfl) ?_
  unfold i_withoutNots at h
  simp only [fnS, f43, argSt, go_sem, seval]
  refine swp_for h (fun i row_4 st => IV [(3, .p false [.row 0]), (7, .p false [.c (.sl 99 5 (List.map eCond r_0.cond))]), (8, .p false [.c (.int .i64 ((r_0.cond.length : Nat) : Int))]), (9, .p false [.c (.int .i64 ((i : Nat) : Int))])] [.row 99 5 (List.map eCond row_4) 1] st) [(false, 3, 0), (true, 112, 1)] [112] (by decide) ?_ ?_ ?_
  · simp only [go_sem, seval, *]
  · rintro i7 x8 row_4 ⟨sl, ob, n⟩ y1 hx2 hI3 hW4 h hy1
    simp only [go_sem, seval, str_len] at hI3
    obtain ⟨⟨g5_3, g5_7, g5_8, g5_9⟩, og5_0, hn⟩ := hI3
    subst hn
    have hlhx2 := WF.slotL hW4 g5_7 (j := 0) rfl
    have q6 := lt_t hx2
    have q7 := lt_p hx2
    have q8 := nat_in (lt_n hx2) hlhx2
    try simp only [go_sem, seval, *]
    refine ite_K h (fun c9 h => ?_) (fun c9 h => ?_) <;> try simp only [go_sem, seval, *]
    · obtain ⟨p10, h⟩ := chk_K h
      try simp only [Nat.reduceLeDiff] at p10
      try simp only [go_sem, seval, *]
      refine ⟨_, [], [177], (Option.some.inj h).symm, by decide, ?_⟩
      try simp only [go_sem, seval, *]
    · refine ⟨_, [], [0], (Option.some.inj h).symm, by decide, ?_⟩
      try simp only [go_sem, seval, *]
  · rintro row_4 ⟨sl, ob, n⟩ hI11 hW12 h
    simp only [go_sem, seval, str_len] at hI11
    obtain ⟨⟨g13_3, g13_7, g13_8, g13_9⟩, og13_0, hn⟩ := hI11
    subst hn
    have q14 := lt_f (r_0.cond.length)
    obtain rfl := Option.some.inj h
    try simp only [go_sem, seval, *]
end Go.Proofs.YtlkgkkacnoaeaaaGreatDoor

namespace Go.Proofs.YtlkgkkacnoaeaaaGreatDoor
open Go.Proofs.Tryz
set_option linter.unusedSimpArgs false
set_option linter.unusedVariables false
set_option maxRecDepth 1000000
set_option maxHeartbeats 4000000
theorem s_IsAtom_ok {s_0 : ByteArray} {r : Bool} (h : s_IsAtom s_0 = some r) : Sound Tryz.prog J0 92 [(false, [.str s_0])] [(false, [(false, .bool r)])] := by
  refine fnk Tryz.func92 (by kernel_rfl) rfl (by kernel_rfl) (by kernel_rfl) ?_
  unfold s_IsAtom at h
  simp only [fnS, f92, argSt, go_sem, seval]
  refine swp_for h (fun i _ st => IV [(0, .p false [.c (.str s_0)]), (3, .p false [.c (.int .i64 ((i : Nat) : Int))])] [] st) [] [] (by decide) ?_ ?_ ?_
  · simp only [go_sem, seval, *]
  · rintro i9 x10 ⟨⟩ ⟨sl, ob, n⟩ y1 hx2 hI3 hW4 h hy1
    simp only [go_sem, seval, str_len] at hI3
    obtain ⟨⟨g5_0, g5_3⟩, hn⟩ := hI3
    subst hn
    have hlhx2 := WF.slotS hW4 g5_0 (j := 0) rfl
    have q6 := str_at hx2
    have q7 := slt_t hx2
    have q8 := nat_in (slt_n hx2) hlhx2
    try simp only [go_sem, seval, *]
    obtain ⟨v11, e9, h⟩ := bind_K h
    refine call_K (by have hh := s_l1In_ok e9; first | exact hh | (simp only [go_sem, *] at hh; exact hh)) ?_
    try simp only [go_sem, seval, *]
    refine ite_K h (fun c10 h => ?_) (fun c10 h => ?_) <;> try simp only [go_sem, seval, *]
    · refine ⟨_, [], [], (Option.some.inj h).symm, by decide, ?_⟩
      try simp only [go_sem, seval, *]
    · obtain ⟨v12, e11, h⟩ := bind_K h
      refine call_K (by have hh := s_l1In_ok e11; first | exact hh | (simp only [go_sem, *] at hh; exact hh)) ?_
      try simp only [go_sem, seval, *]
      refine ite_K h (fun c12 h => ?_) (fun c12 h => ?_) <;> try simp only [go_sem, seval, *]
      · refine ⟨_, [], [], (Option.some.inj h).symm, by decide, ?_⟩
        try simp only [go_sem, seval, *]
      · replace h := inr_K h hy1
        obtain rfl := Option.some.inj h
        try simp only [go_sem, seval, *]
  · rintro ⟨⟩ ⟨sl, ob, n⟩ hI13 hW14 h
    simp only [go_sem, seval, str_len] at hI13
    obtain ⟨⟨g15_0, g15_3⟩, hn⟩ := hI13
    subst hn
    have q16 := lt_f (s_0.size)
    try simp only [go_sem, seval, *]
    obtain ⟨v13, e17, h⟩ := bind_K h
    refine call_K (by have hh := s_l1In_ok e17; first | exact hh | (simp only [go_sem, *] at hh; exact hh)) ?_
    obtain rfl := Option.some.inj h
    try simp only [go_sem, seval, *]
theorem s_ParseInt_ok {s_0 : ByteArray} {r : (Int × Bool)} (h : s_ParseInt s_0 = some r) : Sound Tryz.prog J0 142 [(false, [.str s_0])] [(false, [(false, .int .i64 r.1)]), (false, [(false, .bool r.2)])] := by
  refine fnk Tryz.func142 (by kernel_rfl) rfl (by kernel_rfl) (by kernel_rfl) ?_
  unfold s_ParseInt at h
  simp only [fnS, f142, argSt, go_sem, seval]
  obtain ⟨v1, e1, h⟩ := bind_K h
  refine call_K (by have hh := s_l1In_ok e1; first | exact hh | (simp only [go_sem, *] at hh; exact hh)) ?_
  try simp only [go_sem, seval, *]
  refine ite_K h (fun c2 h => ?_) (fun c2 h => ?_) <;> try simp only [go_sem, seval, *]
  · refine swp_for h (fun i n_3 st => IV [(0, .p false [.c (.str s_0)]), (4, .p false [.c (.int .i64 n_3)]), (5, .p false [.c (.int .i64 ((i : Nat) : Int))])] [] st) [] [] (by decide) ?_ ?_ ?_
    · simp only [go_sem, seval, *]
    · rintro i7 x8 n_3 ⟨sl, ob, n⟩ y3 hx4 hI5 hW6 h hy3
      simp only [go_sem, seval, str_len] at hI5
      obtain ⟨⟨g7_0, g7_4, g7_5⟩, hn⟩ := hI5
      subst hn
      have hlhx4 := WF.slotS hW6 g7_0 (j := 0) rfl
      have q8 := str_at hx4
      have q9 := slt_t hx4
      have q10 := nat_in (slt_n hx4) hlhx4
      try simp only [go_sem, seval, *]
      refine ite_K h (fun c11 h => ?_) (fun c11 h => ?_) <;> try simp only [go_sem, seval, *]
      · replace h := inr_K h hy3
        obtain rfl := Option.some.inj h
        try simp only [go_sem, seval, *]
      · refine ite_K h (fun c12 h => ?_) (fun c12 h => ?_) <;> try simp only [go_sem, seval, *]
        · replace h := inr_K h hy3
          obtain rfl := Option.some.inj h
          try simp only [go_sem, seval, *]
        · refine ⟨_, [], [], (Option.some.inj h).symm, by decide, ?_⟩
          try simp only [go_sem, seval, *]
    · rintro n_3 ⟨sl, ob, n⟩ hI13 hW14 h
      simp only [go_sem, seval, str_len] at hI13
      obtain ⟨⟨g15_0, g15_4, g15_5⟩, hn⟩ := hI13
      subst hn
      have q16 := lt_f (s_0.size)
      try simp only [go_sem, seval, *]
      obtain ⟨v9, e17, h⟩ := bind_K h
      refine call_K (by have hh := s_FormatInt_ok e17; first | exact hh | (simp only [go_sem, *] at hh; exact hh)) ?_
      try simp only [go_sem, seval, *]
      refine ite_K h (fun c18 h => ?_) (fun c18 h => ?_) <;> try simp only [go_sem, seval, *]
      · obtain rfl := Option.some.inj h
        try simp only [go_sem, seval, *]
      · obtain rfl := Option.some.inj h
        try simp only [go_sem, seval, *]
  · obtain rfl := Option.some.inj h
    try simp only [go_sem, seval, *]
theorem s_l2Copy_ok {f_0 : FactD} {r : FactD} (h : s_l2Copy f_0 = some r) : Sound Tryz.prog J0 78 [(true, eFact f_0)] [(true, [(false, .str r.rel), (false, .sl 9 1 (List.map eStr r.args))])] := by
  refine fnk Tryz.func78 (by kernel_rfl) rfl (by kernel_rfl) (by kernel_rfl) ?_
  unfold s_l2Copy at h
  simp only [fnS, f78, argSt, go_sem, seval]
  obtain ⟨v1, e1, h⟩ := bind_K h
  refine call_K (by have hh := s_l1Texts_ok e1; first | exact hh | (simp only [go_sem, *] at hh; exact hh)) ?_
  obtain rfl := Option.some.inj h
  try simp only [go_sem, seval, *]
theorem i_IsName_ok {s_0 : ByteArray} {r : Bool} (h : i_IsName s_0 = some r) : Sound Tryz.prog J0 108 [(false, [.str s_0])] [(false, [(false, .bool r)])] := by
  refine fnk Tryz.func108 (by kernel_rfl) rfl (by kernel_rfl) (by kernel_rfl) ?_
  unfold i_IsName at h
  simp only [fnS, f108, argSt, go_sem, seval]
  obtain ⟨v1, e1, h⟩ := bind_K h
  refine call_K (by have hh := i_IsAtom_ok e1; first | exact hh | (simp only [go_sem, *] at hh; exact hh)) ?_
  try simp only [go_sem, seval, *]
  refine ite_K h (fun c2 h => ?_) (fun c2 h => ?_) <;> try simp only [go_sem, seval, *]
  · obtain ⟨b2, a3, e4, h⟩ := sat_K h
    try simp only [seval] at e4
    obtain rfl := Option.some.inj h
    try simp only [go_sem, seval, *]
  · obtain rfl := Option.some.inj h
    try simp only [go_sem, seval, *]
theorem i_IsVar_ok {s_0 : ByteArray} {r : Bool} (h : i_IsVar s_0 = some r) : Sound Tryz.prog J0 122 [(false, [.str s_0])] [(false, [(false, .bool r)])] := by
  refine fnk Tryz.func122 (by kernel_rfl) rfl (by kernel_rfl) (by kernel_rfl) ?_
  unfold i_IsVar at h
  simp only [fnS, f122, argSt, go_sem, seval]
  refine ite_K h (fun c1 h => ?_) (fun c1 h => ?_) <;> try simp only [go_sem, seval, *]
  · obtain ⟨b1, a2, e3, h⟩ := sat_K h
    try simp only [seval] at e3
    try simp only [go_sem, seval, *]
    refine ite_K h (fun c4 h => ?_) (fun c4 h => ?_) <;> try simp only [go_sem, seval, *]
    · obtain ⟨p5, h⟩ := chk_K h
      try simp only [go_sem, seval, *]
      obtain ⟨v2, e6, h⟩ := bind_K h
      refine call_K (by have hh := i_IsAtom_ok e6; first | exact hh | (simp only [go_sem, *] at hh; exact hh)) ?_
      obtain rfl := Option.some.inj h
      try simp only [go_sem, seval, *]
    · obtain rfl := Option.some.inj h
      try simp only [go_sem, seval, *]
  · obtain rfl := Option.some.inj h
    try simp only [go_sem, seval, *]
theorem i_termsOf_ok {x_0 : CondD} {r : (List ByteArray)} (h : i_termsOf x_0 = some r) : Sound Tryz.prog J0 154 [(true, eCond x_0)] [(false, [(false, .sl 9 1 (List.map eStr r))])] := by
  refine fnk Tryz.func154 (by kernel_rfl) rfl (by kernel_rfl) (by kernel_rfl) ?_
  unfold i_termsOf at h
  simp only [fnS, f154, argSt, go_sem, seval]
  obtain ⟨v1, e1, h⟩ := bind_K h
  refine call_K (by have hh := i_copyTexts_ok e1; first | exact hh | (simp only [go_sem, *] at hh; exact hh)) ?_
  obtain ⟨p2, h⟩ := chk_K h
  try simp only [Nat.reduceLeDiff] at p2
  obtain rfl := Option.some.inj h
  try simp only [go_sem, seval, *]
theorem i_ParseInt_ok {s_0 : ByteArray} {r : (Int × Bool)} (h : i_ParseInt s_0 = some r) : Sound Tryz.prog J0 148 [(false, [.str s_0])] [(false, [(false, .int .i64 r.1)]), (false, [(false, .bool r.2)])] := by
  refine fnk Tryz.func148 (by kernel_rfl) rfl (by kernel_rfl) (by kernel_rfl) ?_
  unfold i_ParseInt at h
  simp only [fnS, f148, argSt, go_sem, seval]
  refine ite_K h (fun c1 h => ?_) (fun c1 h => ?_) <;> try simp only [go_sem, seval, *]
  · obtain rfl := Option.some.inj h
    try simp only [go_sem, seval, *]
  · refine ite_K h (fun c2 h => ?_) (fun c2 h => ?_) <;> try simp only [go_sem, seval, *]
    · obtain rfl := Option.some.inj h
      try simp only [go_sem, seval, *]
    · obtain ⟨v1, e3, h⟩ := bind_K h
      refine call_K (by have hh := x_Atoi_ok e3; first | exact hh | (simp only [go_sem, *] at hh; exact hh)) ?_
      try simp only [go_sem, seval, *]
      refine ite_K h (fun c4 h => ?_) (fun c4 h => ?_) <;> try simp only [go_sem, seval, *]
      · refine ite_K h (fun c5 h => ?_) (fun c5 h => ?_) <;> try simp only [go_sem, seval, *]
        · obtain rfl := Option.some.inj h
          try simp only [go_sem, seval, *]
        · refine ite_K h (fun c6 h => ?_) (fun c6 h => ?_) <;> try simp only [go_sem, seval, *]
          · obtain rfl := Option.some.inj h
            try simp only [go_sem, seval, *]
          · obtain ⟨v2, e7, h⟩ := bind_K h
            refine call_K (by have hh := i_FormatInt_ok e7; first | exact hh | (simp only [go_sem, *] at hh; exact hh)) ?_
            try simp only [go_sem, seval, *]
            refine ite_K h (fun c8 h => ?_) (fun c8 h => ?_) <;> try simp only [go_sem, seval, *]
            · obtain rfl := Option.some.inj h
              try simp only [go_sem, seval, *]
            · obtain rfl := Option.some.inj h
              try simp only [go_sem, seval, *]
      · obtain rfl := Option.some.inj h
        try simp only [go_sem, seval, *]
theorem i_copyFact_ok {f_0 : FactD} {r : FactD} (h : i_copyFact f_0 = some r) : Sound Tryz.prog J0 83 [(true, eFact f_0)] [(true, [(false, .str r.rel), (false, .sl 9 1 (List.map eStr r.args))])] := by
  refine fnk Tryz.func83 (by kernel_rfl) rfl (by kernel_rfl) (by kernel_rfl) ?_
  unfold i_copyFact at h
  simp only [fnS, f83, argSt, go_sem, seval]
  obtain ⟨v1, e1, h⟩ := bind_K h
  refine call_K (by have hh := i_copyTexts_ok e1; first | exact hh | (simp only [go_sem, *] at hh; exact hh)) ?_
  obtain rfl := Option.some.inj h
  try simp only [go_sem, seval, *]
theorem i_sameFact_ok {a_0 : FactD} {b_1 : FactD} {r : Bool} (h : i_sameFact a_0 b_1 = some r) : Sound Tryz.prog J0 71 [(true, eFact a_0), (true, eFact b_1)] [(false, [(false, .bool r)])] := by
  refine fnk Tryz.func71 (by kernel_rfl) rfl (by kernel_rfl) (by kernel_rfl) ?_
  unfold i_sameFact at h
  simp only [fnS, f71, argSt, go_sem, seval]
  refine ite_K h (fun c1 h => ?_) (fun c1 h => ?_) <;> try simp only [go_sem, seval, *]
  · obtain ⟨v1, e2, h⟩ := bind_K h
    refine call_K (by have hh := i_sameTexts_ok e2; first | exact hh | (simp only [go_sem, *] at hh; exact hh)) ?_
    obtain rfl := Option.some.inj h
    try simp only [go_sem, seval, *]
  · obtain rfl := Option.some.inj h
    try simp only [go_sem, seval, *]
theorem s_l14Bound_ok {a_0 : (List ByteArray)} {b_1 : (List ByteArray)} {r : Bool} (h : s_l14Bound a_0 b_1 = some r) : Sound Tryz.prog J0 126 [(false, [.sl 9 1 (List.map eStr a_0)]), (false, [.sl 9 1 (List.map eStr b_1)])] [(false, [(false, .bool r)])] := by
  refine fnk Tryz.func126 (by kernel_rfl) rfl (by kernel_rfl) (by kernel_rfl) ?_
  unfold s_l14Bound at h
  simp only [fnS, f126, argSt, go_sem, seval]
  refine swp_for h (fun i _ st => IV [(0, .p false [.c (.sl 9 1 (List.map eStr a_0))]), (1, .p false [.c (.sl 9 1 (List.map eStr b_1))]), (5, .p false [.c (.int .i64 ((i : Nat) : Int))])] [] st) [] [] (by decide) ?_ ?_ ?_
  · simp only [go_sem, seval, *]
  · rintro i6 x7 ⟨⟩ ⟨sl, ob, n⟩ y1 hx2 hI3 hW4 h hy1
    simp only [go_sem, seval, str_len] at hI3
    obtain ⟨⟨g5_0, g5_1, g5_5⟩, hn⟩ := hI3
    subst hn
    have hlhx2 := WF.slotL hW4 g5_0 (j := 0) rfl
    have q6 := lt_t hx2
    have q7 := lt_p hx2
    have q8 := nat_in (lt_n hx2) hlhx2
    try simp only [go_sem, seval, *]
    obtain ⟨v8, e9, h⟩ := bind_K h
    refine call_K (by have hh := s_l1HasText_ok e9; first | exact hh | (simp only [go_sem, *] at hh; exact hh)) ?_
    try simp only [go_sem, seval, *]
    refine ite_K h (fun c10 h => ?_) (fun c10 h => ?_) <;> try simp only [go_sem, seval, *]
    · refine ⟨_, [], [], (Option.some.inj h).symm, by decide, ?_⟩
      try simp only [go_sem, seval, *]
    · replace h := inr_K h hy1
      obtain rfl := Option.some.inj h
      try simp only [go_sem, seval, *]
  · rintro ⟨⟩ ⟨sl, ob, n⟩ hI11 hW12 h
    simp only [go_sem, seval, str_len] at hI11
    obtain ⟨⟨g13_0, g13_1, g13_5⟩, hn⟩ := hI11
    subst hn
    have q14 := lt_f (a_0.length)
    obtain rfl := Option.some.inj h
    try simp only [go_sem, seval, *]
theorem s_WritesOf_ok {r_0 : RuleD} {r : (List ByteArray)} (h : s_WritesOf r_0 = some r) : Sound Tryz.prog J0 76 [(true, eRule r_0)] [(false, [(false, .sl 9 1 (List.map eStr r))])] := by
  refine fnk Tryz.func76 (by kernel_rfl) rfl (by kernel_rfl) (by kernel_rfl) ?_
  unfold s_WritesOf at h
  simp only [fnS, f76, argSt, go_sem, seval]
  refine swp_for h (fun i row_4 st => IV [(1, .bp 0 0), (3, .p false [.row 1]), (4, .p false [.c (.int .i64 ((i : Nat) : Int))])] [.box 52 [.c (.str r_0.name), .c (.int .i64 r_0.priority), .c (.sl 99 5 (List.map eCond r_0.cond)), .c (.sl 62 3 (List.map eAction r_0.thn))], .row 9 1 (List.map eStr row_4) 2] st) [] [0, 32] (by decide) ?_ ?_ ?_
  · simp only [go_sem, seval, *]
  · rintro i9 x10 row_4 ⟨sl, ob, n⟩ y1 hx2 hI3 hW4 h hy1
    simp only [go_sem, seval, str_len] at hI3
    obtain ⟨⟨g5_1, g5_3, g5_4⟩, og5_0, og5_1, hn⟩ := hI3
    subst hn
    have hlhx2 := WF.boxL hW4 og5_0 (j := 3) rfl
    have q6 := lt_t hx2
    have q7 := lt_p hx2
    have q8 := nat_in (lt_n hx2) hlhx2
    try simp only [go_sem, seval, *]
    refine ite_K h (fun c9 h => ?_) (fun c9 h => ?_) <;> try simp only [go_sem, seval, *]
    · obtain ⟨v11, e10, h⟩ := bind_K h
      refine call_K (by have hh := s_l1Put_ok e10; first | exact hh | (simp only [go_sem, *] at hh; exact hh)) ?_
      try simp only [go_sem, seval, *]
      refine ⟨_, [], [0, 466], (Option.some.inj h).symm, by decide, ?_⟩
      try simp only [go_sem, seval, *]
    · refine ite_K h (fun c11 h => ?_) (fun c11 h => ?_) <;> try simp only [go_sem, seval, *]
      · obtain ⟨v12, e12, h⟩ := bind_K h
        refine call_K (by have hh := s_l1Put_ok e12; first | exact hh | (simp only [go_sem, *] at hh; exact hh)) ?_
        try simp only [go_sem, seval, *]
        refine ⟨_, [], [0, 466], (Option.some.inj h).symm, by decide, ?_⟩
        try simp only [go_sem, seval, *]
      · refine ⟨_, [], [0, 1], (Option.some.inj h).symm, by decide, ?_⟩
        try simp only [go_sem, seval, *]
  · rintro row_4 ⟨sl, ob, n⟩ hI13 hW14 h
    simp only [go_sem, seval, str_len] at hI13
    obtain ⟨⟨g15_1, g15_3, g15_4⟩, og15_0, og15_1, hn⟩ := hI13
    subst hn
    have q16 := lt_f (r_0.thn.length)
    obtain rfl := Option.some.inj h
    try simp only [go_sem, seval, *]
theorem s_ReadsOf_ok {r_0 : RuleD} {r : (List ByteArray)} (h : s_ReadsOf r_0 = some r) : Sound Tryz.prog J0 128 [(true, eRule r_0)] [(false, [(false, .sl 9 1 (List.map eStr r))])] := by
  refine fnk Tryz.func128 (by kernel_rfl) rfl (by kernel_rfl) (by kernel_rfl) ?_
  unfold s_ReadsOf at h
  simp only [fnS, f128, argSt, go_sem, seval]
  refine swp_for h (fun i row_4 st => IV [(1, .bp 0 0), (3, .p false [.row 1]), (4, .p false [.c (.int .i64 ((i : Nat) : Int))])] [.box 52 [.c (.str r_0.name), .c (.int .i64 r_0.priority), .c (.sl 99 5 (List.map eCond r_0.cond)), .c (.sl 62 3 (List.map eAction r_0.thn))], .row 9 1 (List.map eStr row_4) 2] st) [] [0, 32] (by decide) ?_ ?_ ?_
  · simp only [go_sem, seval, *]
  · rintro i9 x10 row_4 ⟨sl, ob, n⟩ y1 hx2 hI3 hW4 h hy1
    simp only [go_sem, seval, str_len] at hI3
    obtain ⟨⟨g5_1, g5_3, g5_4⟩, og5_0, og5_1, hn⟩ := hI3
    subst hn
    have hlhx2 := WF.boxL hW4 og5_0 (j := 2) rfl
    have q6 := lt_t hx2
    have q7 := lt_p hx2
    have q8 := nat_in (lt_n hx2) hlhx2
    try simp only [go_sem, seval, *]
    refine ite_K h (fun c9 h => ?_) (fun c9 h => ?_) <;> try simp only [go_sem, seval, *]
    · obtain ⟨v11, e10, h⟩ := bind_K h
      refine call_K (by have hh := s_l1Put_ok e10; first | exact hh | (simp only [go_sem, *] at hh; exact hh)) ?_
      try simp only [go_sem, seval, *]
      refine ⟨_, [], [0, 466], (Option.some.inj h).symm, by decide, ?_⟩
      try simp only [go_sem, seval, *]
    · refine ite_K h (fun c11 h => ?_) (fun c11 h => ?_) <;> try simp only [go_sem, seval, *]
      · obtain ⟨v12, e12, h⟩ := bind_K h
        refine call_K (by have hh := s_l1Put_ok e12; first | exact hh | (simp only [go_sem, *] at hh; exact hh)) ?_
        try simp only [go_sem, seval, *]
        refine ⟨_, [], [0, 466], (Option.some.inj h).symm, by decide, ?_⟩
        try simp only [go_sem, seval, *]
      · refine ⟨_, [], [0, 1], (Option.some.inj h).symm, by decide, ?_⟩
        try simp only [go_sem, seval, *]
  · rintro row_4 ⟨sl, ob, n⟩ hI13 hW14 h
    simp only [go_sem, seval, str_len] at hI13
    obtain ⟨⟨g15_1, g15_3, g15_4⟩, og15_0, og15_1, hn⟩ := hI13
    subst hn
    have q16 := lt_f (r_0.cond.length)
    obtain rfl := Option.some.inj h
    try simp only [go_sem, seval, *]
theorem i_WritesOf_ok {r_0 : RuleD} {r : (List ByteArray)} (h : i_WritesOf r_0 = some r) : Sound Tryz.prog J0 82 [(true, eRule r_0)] [(false, [(false, .sl 9 1 (List.map eStr r))])] := by
  refine fnk Tryz.func82 (by kernel_rfl) rfl (by kernel_rfl) (by kernel_rfl) ?_
  unfold i_WritesOf at h
  simp only [fnS, f82, argSt, go_sem, seval]
  refine swp_for h (fun i row_3 st => IV [(3, .p false [.row 0]), (7, .p false [.c (.sl 62 3 (List.map eAction r_0.thn))]), (8, .p false [.c (.int .i64 ((r_0.thn.length : Nat) : Int))]), (9, .p false [.c (.int .i64 ((i : Nat) : Int))])] [.row 9 1 (List.map eStr row_3) 2] st) [(false, 3, 0)] [112] (by decide) ?_ ?_ ?_
  · simp only [go_sem, seval, *]
  · rintro i7 x8 row_3 ⟨sl, ob, n⟩ y1 hx2 hI3 hW4 h hy1
    simp only [go_sem, seval, str_len] at hI3
    obtain ⟨⟨g5_3, g5_7, g5_8, g5_9⟩, og5_0, hn⟩ := hI3
    subst hn
    have hlhx2 := WF.slotL hW4 g5_7 (j := 0) rfl
    have q6 := lt_t hx2
    have q7 := lt_p hx2
    have q8 := nat_in (lt_n hx2) hlhx2
    try simp only [go_sem, seval, *]
    refine ite_K h (fun c9 h => ?_) (fun c9 h => ?_) <;> try simp only [go_sem, seval, *]
    · obtain ⟨p10, h⟩ := chk_K h
      try simp only [Nat.reduceLeDiff] at p10
      try simp only [go_sem, seval, *]
      refine ⟨_, [], [289], (Option.some.inj h).symm, by decide, ?_⟩
      try simp only [go_sem, seval, *]
    · refine ite_K h (fun c11 h => ?_) (fun c11 h => ?_) <;> try simp only [go_sem, seval, *]
      · obtain ⟨p12, h⟩ := chk_K h
        try simp only [Nat.reduceLeDiff] at p12
        try simp only [go_sem, seval, *]
        refine ⟨_, [], [289], (Option.some.inj h).symm, by decide, ?_⟩
        try simp only [go_sem, seval, *]
      · refine ⟨_, [], [0], (Option.some.inj h).symm, by decide, ?_⟩
        try simp only [go_sem, seval, *]
  · rintro row_3 ⟨sl, ob, n⟩ hI13 hW14 h
    simp only [go_sem, seval, str_len] at hI13
    obtain ⟨⟨g15_3, g15_7, g15_8, g15_9⟩, og15_0, hn⟩ := hI13
    subst hn
    have q16 := lt_f (r_0.thn.length)
    try simp only [go_sem, seval, *]
    obtain ⟨v9, e17, h⟩ := bind_K h
    refine call_K (by have hh := i_SortedTexts_ok e17; first | exact hh | (simp only [go_sem, *] at hh; exact hh)) ?_
    obtain rfl := Option.some.inj h
    try simp only [go_sem, seval, *]
theorem i_ReadsOf_ok {r_0 : RuleD} {r : (List ByteArray)} (h : i_ReadsOf r_0 = some r) : Sound Tryz.prog J0 135 [(true, eRule r_0)] [(false, [(false, .sl 9 1 (List.map eStr r))])] := by
  refine fnk Tryz.func135 (by kernel_rfl) rfl (by kernel_rfl) (by kernel_rfl) ?_
  unfold i_ReadsOf at h
  simp only [fnS, f135, argSt, go_sem, seval]
  refine swp_for h (fun i row_3 st => IV [(3, .p false [.row 0]), (7, .p false [.c (.sl 99 5 (List.map eCond r_0.cond))]), (8, .p false [.c (.int .i64 ((r_0.cond.length : Nat) : Int))]), (9, .p false [.c (.int .i64 ((i : Nat) : Int))])] [.row 9 1 (List.map eStr row_3) 2] st) [(false, 3, 0)] [112] (by decide) ?_ ?_ ?_
  · simp only [go_sem, seval, *]
  · rintro i7 x8 row_3 ⟨sl, ob, n⟩ y1 hx2 hI3 hW4 h hy1
    simp only [go_sem, seval, str_len] at hI3
    obtain ⟨⟨g5_3, g5_7, g5_8, g5_9⟩, og5_0, hn⟩ := hI3
    subst hn
    have hlhx2 := WF.slotL hW4 g5_7 (j := 0) rfl
    have q6 := lt_t hx2
    have q7 := lt_p hx2
    have q8 := nat_in (lt_n hx2) hlhx2
    try simp only [go_sem, seval, *]
    refine ite_K h (fun c9 h => ?_) (fun c9 h => ?_) <;> try simp only [go_sem, seval, *]
    · obtain ⟨p10, h⟩ := chk_K h
      try simp only [Nat.reduceLeDiff] at p10
      try simp only [go_sem, seval, *]
      refine ⟨_, [], [289], (Option.some.inj h).symm, by decide, ?_⟩
      try simp only [go_sem, seval, *]
    · refine ite_K h (fun c11 h => ?_) (fun c11 h => ?_) <;> try simp only [go_sem, seval, *]
      · obtain ⟨p12, h⟩ := chk_K h
        try simp only [Nat.reduceLeDiff] at p12
        try simp only [go_sem, seval, *]
        refine ⟨_, [], [289], (Option.some.inj h).symm, by decide, ?_⟩
        try simp only [go_sem, seval, *]
      · refine ⟨_, [], [0], (Option.some.inj h).symm, by decide, ?_⟩
        try simp only [go_sem, seval, *]
  · rintro row_3 ⟨sl, ob, n⟩ hI13 hW14 h
    simp only [go_sem, seval, str_len] at hI13
    obtain ⟨⟨g15_3, g15_7, g15_8, g15_9⟩, og15_0, hn⟩ := hI13
    subst hn
    have q16 := lt_f (r_0.cond.length)
    try simp only [go_sem, seval, *]
    obtain ⟨v9, e17, h⟩ := bind_K h
    refine call_K (by have hh := i_SortedTexts_ok e17; first | exact hh | (simp only [go_sem, *] at hh; exact hh)) ?_
    obtain rfl := Option.some.inj h
    try simp only [go_sem, seval, *]
end Go.Proofs.YtlkgkkacnoaeaaaGreatDoor

namespace Go.Proofs.YtlkgkkacnoaeaaaGreatDoor
open Go.Proofs.Tryz
set_option linter.unusedSimpArgs false
set_option linter.unusedVariables false
set_option maxRecDepth 1000000
set_option maxHeartbeats 4000000
theorem s_IsName_ok {s_0 : ByteArray} {r : Bool} (h : s_IsName s_0 = some r) : Sound Tryz.prog J0 90 [(false, [.str s_0])] [(false, [(false, .bool r)])] := by
  refine fnk Tryz.func90 (by kernel_rfl) rfl (by kernel_rfl) (by kernel_rfl) ?_
  unfold s_IsName at h
  simp only [fnS, f90, argSt, go_sem, seval]
  obtain ⟨v1, e1, h⟩ := bind_K h
  refine call_K (by have hh := s_IsAtom_ok e1; first | exact hh | (simp only [go_sem, *] at hh; exact hh)) ?_
  try simp only [go_sem, seval, *]
  refine ite_K h (fun c2 h => ?_) (fun c2 h => ?_) <;> try simp only [go_sem, seval, *]
  · obtain ⟨b2, a3, e4, h⟩ := sat_K h
    try simp only [seval] at e4
    try simp only [go_sem, seval, *]
    obtain ⟨v3, e5, h⟩ := bind_K h
    refine call_K (by have hh := s_l1In_ok e5; first | exact hh | (simp only [go_sem, *] at hh; exact hh)) ?_
    obtain rfl := Option.some.inj h
    try simp only [go_sem, seval, *]
  · obtain rfl := Option.some.inj h
    try simp only [go_sem, seval, *]
theorem s_IsVar_ok {s_0 : ByteArray} {r : Bool} (h : s_IsVar s_0 = some r) : Sound Tryz.prog J0 91 [(false, [.str s_0])] [(false, [(false, .bool r)])] := by
  refine fnk Tryz.func91 (by kernel_rfl) rfl (by kernel_rfl) (by kernel_rfl) ?_
  unfold s_IsVar at h
  simp only [fnS, f91, argSt, go_sem, seval]
  refine ite_K h (fun c1 h => ?_) (fun c1 h => ?_) <;> try simp only [go_sem, seval, *]
  · obtain ⟨b1, a2, e3, h⟩ := sat_K h
    try simp only [seval] at e3
    try simp only [go_sem, seval, *]
    refine ite_K h (fun c4 h => ?_) (fun c4 h => ?_) <;> try simp only [go_sem, seval, *]
    · obtain ⟨p5, h⟩ := chk_K h
      try simp only [go_sem, seval, *]
      obtain ⟨v2, e6, h⟩ := bind_K h
      refine call_K (by have hh := s_IsAtom_ok e6; first | exact hh | (simp only [go_sem, *] at hh; exact hh)) ?_
      obtain rfl := Option.some.inj h
      try simp only [go_sem, seval, *]
    · obtain rfl := Option.some.inj h
      try simp only [go_sem, seval, *]
  · obtain rfl := Option.some.inj h
    try simp only [go_sem, seval, *]
theorem s_CompareAtoms_ok {a_0 : ByteArray} {b_1 : ByteArray} {r : Int} (h : s_CompareAtoms a_0 b_1 = some r) : Sound Tryz.prog J0 105 [(false, [.str a_0]), (false, [.str b_1])] [(false, [(false, .int .i64 r)])] := by
  refine fnk Tryz.func105 (by kernel_rfl) rfl (by kernel_rfl) (by kernel_rfl) ?_
  unfold s_CompareAtoms at h
  simp only [fnS, f105, argSt, go_sem, seval]
  obtain ⟨v1, e1, h⟩ := bind_K h
  refine call_K (by have hh := s_ParseInt_ok e1; first | exact hh | (simp only [go_sem, *] at hh; exact hh)) ?_
  try simp only [go_sem, seval, *]
  obtain ⟨v2, e2, h⟩ := bind_K h
  refine call_K (by have hh := s_ParseInt_ok e2; first | exact hh | (simp only [go_sem, *] at hh; exact hh)) ?_
  try simp only [go_sem, seval, *]
  refine ite_K h (fun c3 h => ?_) (fun c3 h => ?_) <;> try simp only [go_sem, seval, *]
  · refine ite_K h (fun c4 h => ?_) (fun c4 h => ?_) <;> try simp only [go_sem, seval, *]
    · refine ite_K h (fun c5 h => ?_) (fun c5 h => ?_) <;> try simp only [go_sem, seval, *]
      · obtain rfl := Option.some.inj h
        try simp only [go_sem, seval, *]
      · refine ite_K h (fun c6 h => ?_) (fun c6 h => ?_) <;> try simp only [go_sem, seval, *]
        · obtain rfl := Option.some.inj h
          try simp only [go_sem, seval, *]
        · obtain rfl := Option.some.inj h
          try simp only [go_sem, seval, *]
    · obtain rfl := Option.some.inj h
      try simp only [go_sem, seval, *]
  · refine ite_K h (fun c7 h => ?_) (fun c7 h => ?_) <;> try simp only [go_sem, seval, *]
    · obtain rfl := Option.some.inj h
      try simp only [go_sem, seval, *]
    · obtain ⟨v3, e8, h⟩ := bind_K h
      refine call_K (by have hh := s_l1Cmp_ok e8; first | exact hh | (simp only [go_sem, *] at hh; exact hh)) ?_
      obtain rfl := Option.some.inj h
      try simp only [go_sem, seval, *]
theorem s_l2Copies_ok {l_0 : (List FactD)} {r : (List FactD)} (h : s_l2Copies l_0 = some r) : Sound Tryz.prog J0 36 [(false, [.sl 57 2 (List.map eFact l_0)])] [(false, [(false, .sl 57 2 (List.map eFact r))])] := by
  refine fnk Tryz.func36 (by kernel_rfl) rfl (by kernel_rfl) (by kernel_rfl) ?_
  unfold s_l2Copies at h
  simp only [fnS, f36, argSt, go_sem, seval]
  refine swp_for h (fun i row_3 st => IV [(0, .p false [.c (.sl 57 2 (List.map eFact l_0))]), (3, .p false [.row 0]), (4, .p false [.c (.int .i64 ((i : Nat) : Int))])] [.row 57 2 (List.map eFact row_3) 2] st) [] [16] (by decide) ?_ ?_ ?_
  · simp only [go_sem, seval, *]
  · rintro i7 x8 row_3 ⟨sl, ob, n⟩ y1 hx2 hI3 hW4 h hy1
    simp only [go_sem, seval, str_len] at hI3
    obtain ⟨⟨g5_0, g5_3, g5_4⟩, og5_0, hn⟩ := hI3
    subst hn
    have hlhx2 := WF.slotL hW4 g5_0 (j := 0) rfl
    have q6 := lt_t hx2
    have q7 := lt_p hx2
    have q8 := nat_in (lt_n hx2) hlhx2
    try simp only [go_sem, seval, *]
    obtain ⟨v9, e9, h⟩ := bind_K h
    refine call_K (by have hh := s_l2Copy_ok e9; first | exact hh | (simp only [go_sem, *] at hh; exact hh)) ?_
    obtain ⟨p10, h⟩ := chk_K h
    try simp only [Nat.reduceLeDiff] at p10
    try simp only [go_sem, seval, *]
    refine ⟨_, [], [177], (Option.some.inj h).symm, by decide, ?_⟩
    try simp only [go_sem, seval, *]
  · rintro row_3 ⟨sl, ob, n⟩ hI11 hW12 h
    simp only [go_sem, seval, str_len] at hI11
    obtain ⟨⟨g13_0, g13_3, g13_4⟩, og13_0, hn⟩ := hI11
    subst hn
    have q14 := lt_f (l_0.length)
    obtain rfl := Option.some.inj h
    try simp only [go_sem, seval, *]
theorem s_IsNumber_ok {s_0 : ByteArray} {r : Bool} (h : s_IsNumber s_0 = some r) : Sound Tryz.prog J0 161 [(false, [.str s_0])] [(false, [(false, .bool r)])] := by
  refine fnk Tryz.func161 (by kernel_rfl) rfl (by kernel_rfl) (by kernel_rfl) ?_
  unfold s_IsNumber at h
  simp only [fnS, f161, argSt, go_sem, seval]
  obtain ⟨v1, e1, h⟩ := bind_K h
  refine call_K (by have hh := s_ParseInt_ok e1; first | exact hh | (simp only [go_sem, *] at hh; exact hh)) ?_
  obtain rfl := Option.some.inj h
  try simp only [go_sem, seval, *]
theorem i_IsTerm_ok {s_0 : ByteArray} {r : Bool} (h : i_IsTerm s_0 = some r) : Sound Tryz.prog J0 121 [(false, [.str s_0])] [(false, [(false, .bool r)])] := by
  refine fnk Tryz.func121 (by kernel_rfl) rfl (by kernel_rfl) (by kernel_rfl) ?_
  unfold i_IsTerm at h
  simp only [fnS, f121, argSt, go_sem, seval]
  obtain ⟨v1, e1, h⟩ := bind_K h
  refine call_K (by have hh := i_IsAtom_ok e1; first | exact hh | (simp only [go_sem, *] at hh; exact hh)) ?_
  try simp only [go_sem, seval, *]
  refine ite_K h (fun c2 h => ?_) (fun c2 h => ?_) <;> try simp only [go_sem, seval, *]
  · obtain rfl := Option.some.inj h
    try simp only [go_sem, seval, *]
  · obtain ⟨v2, e3, h⟩ := bind_K h
    refine call_K (by have hh := i_IsVar_ok e3; first | exact hh | (simp only [go_sem, *] at hh; exact hh)) ?_
    obtain rfl := Option.some.inj h
    try simp only [go_sem, seval, *]
theorem i_varsAmong_ok {l_0 : (List ByteArray)} {r : (List ByteArray)} (h : i_varsAmong l_0 = some r) : Sound Tryz.prog J0 113 [(false, [.sl 9 1 (List.map eStr l_0)])] [(false, [(false, .sl 9 1 (List.map eStr r))])] := by
  refine fnk Tryz.func113 (by kernel_rfl) rfl (by kernel_rfl) (by kernel_rfl) ?_
  unfold i_varsAmong at h
  simp only [fnS, f113, argSt, go_sem, seval]
  refine swp_for h (fun i row_5 st => IV [(3, .p false [.row 0]), (6, .p false [.c (.sl 9 1 (List.map eStr l_0))]), (7, .p false [.c (.int .i64 ((l_0.length : Nat) : Int))]), (8, .p false [.c (.int .i64 ((i : Nat) : Int))])] [.row 9 1 (List.map eStr row_5) 2] st) [(false, 3, 0)] [80] (by decide) ?_ ?_ ?_
  · simp only [go_sem, seval, *]
  · rintro i9 x10 row_5 ⟨sl, ob, n⟩ y1 hx2 hI3 hW4 h hy1
    simp only [go_sem, seval, str_len] at hI3
    obtain ⟨⟨g5_3, g5_6, g5_7, g5_8⟩, og5_0, hn⟩ := hI3
    subst hn
    have hlhx2 := WF.slotL hW4 g5_6 (j := 0) rfl
    have q6 := lt_t hx2
    have q7 := lt_p hx2
    have q8 := nat_in (lt_n hx2) hlhx2
    try simp only [go_sem, seval, *]
    obtain ⟨v11, e9, h⟩ := bind_K h
    refine call_K (by have hh := i_IsVar_ok e9; first | exact hh | (simp only [go_sem, *] at hh; exact hh)) ?_
    try simp only [go_sem, seval, *]
    refine ite_K h (fun c10 h => ?_) (fun c10 h => ?_) <;> try simp only [go_sem, seval, *]
    · obtain ⟨p11, h⟩ := chk_K h
      try simp only [Nat.reduceLeDiff] at p11
      try simp only [go_sem, seval, *]
      refine ⟨_, [], [145], (Option.some.inj h).symm, by decide, ?_⟩
      try simp only [go_sem, seval, *]
    · refine ⟨_, [], [0], (Option.some.inj h).symm, by decide, ?_⟩
      try simp only [go_sem, seval, *]
  · rintro row_5 ⟨sl, ob, n⟩ hI12 hW13 h
    simp only [go_sem, seval, str_len] at hI12
    obtain ⟨⟨g14_3, g14_6, g14_7, g14_8⟩, og14_0, hn⟩ := hI12
    subst hn
    have q15 := lt_f (l_0.length)
    obtain rfl := Option.some.inj h
    try simp only [go_sem, seval, *]
theorem i_IsFact_ok {f_0 : FactD} {r : Bool} (h : i_IsFact f_0 = some r) : Sound Tryz.prog J0 66 [(true, eFact f_0)] [(false, [(false, .bool r)])] := by
  refine fnk Tryz.func66 (by kernel_rfl) rfl (by kernel_rfl) (by kernel_rfl) ?_
  unfold i_IsFact at h
  simp only [fnS, f66, argSt, go_sem, seval]
  obtain ⟨v1, e1, h⟩ := bind_K h
  refine call_K (by have hh := i_IsName_ok e1; first | exact hh | (simp only [go_sem, *] at hh; exact hh)) ?_
  try simp only [go_sem, seval, *]
  refine ite_K h (fun c2 h => ?_) (fun c2 h => ?_) <;> try simp only [go_sem, seval, *]
  · refine ite_K h (fun c3 h => ?_) (fun c3 h => ?_) <;> try simp only [go_sem, seval, *]
    · obtain rfl := Option.some.inj h
      try simp only [go_sem, seval, *]
    · refine swp_for h (fun i _ st => IV [(16, .p false [.c (.sl 9 1 (List.map eStr f_0.args))]), (17, .p false [.c (.int .i64 ((f_0.args.length : Nat) : Int))]), (18, .p false [.c (.int .i64 ((i : Nat) : Int))])] [] st) [] [] (by decide) ?_ ?_ ?_
      · simp only [go_sem, seval, *]
      · rintro i7 x8 ⟨⟩ ⟨sl, ob, n⟩ y4 hx5 hI6 hW7 h hy4
        simp only [go_sem, seval, str_len] at hI6
        obtain ⟨⟨g8_16, g8_17, g8_18⟩, hn⟩ := hI6
        subst hn
        have hlhx5 := WF.slotL hW7 g8_16 (j := 0) rfl
        have q9 := lt_t hx5
        have q10 := lt_p hx5
        have q11 := nat_in (lt_n hx5) hlhx5
        try simp only [go_sem, seval, *]
        obtain ⟨v9, e12, h⟩ := bind_K h
        refine call_K (by have hh := i_IsAtom_ok e12; first | exact hh | (simp only [go_sem, *] at hh; exact hh)) ?_
        try simp only [go_sem, seval, *]
        refine ite_K h (fun c13 h => ?_) (fun c13 h => ?_) <;> try simp only [go_sem, seval, *]
        · refine ⟨_, [], [], (Option.some.inj h).symm, by decide, ?_⟩
          try simp only [go_sem, seval, *]
        · replace h := inr_K h hy4
          obtain rfl := Option.some.inj h
          try simp only [go_sem, seval, *]
      · rintro ⟨⟩ ⟨sl, ob, n⟩ hI14 hW15 h
        simp only [go_sem, seval, str_len] at hI14
        obtain ⟨⟨g16_16, g16_17, g16_18⟩, hn⟩ := hI14
        subst hn
        have q17 := lt_f (f_0.args.length)
        obtain rfl := Option.some.inj h
        try simp only [go_sem, seval, *]
  · obtain rfl := Option.some.inj h
    try simp only [go_sem, seval, *]
theorem i_CompareAtoms_ok {a_0 : ByteArray} {b_1 : ByteArray} {r : Int} (h : i_CompareAtoms a_0 b_1 = some r) : Sound Tryz.prog J0 119 [(false, [.str a_0]), (false, [.str b_1])] [(false, [(false, .int .i64 r)])] := by
  refine fnk Tryz.func119 (by kernel_rfl) rfl (by kernel_rfl) (by kernel_rfl) ?_
  unfold i_CompareAtoms at h
  simp only [fnS, f119, argSt, go_sem, seval]
  obtain ⟨v1, e1, h⟩ := bind_K h
  refine call_K (by have hh := i_ParseInt_ok e1; first | exact hh | (simp only [go_sem, *] at hh; exact hh)) ?_
  try simp only [go_sem, seval, *]
  obtain ⟨v2, e2, h⟩ := bind_K h
  refine call_K (by have hh := i_ParseInt_ok e2; first | exact hh | (simp only [go_sem, *] at hh; exact hh)) ?_
  try simp only [go_sem, seval, *]
  refine ite_K h (fun c3 h => ?_) (fun c3 h => ?_) <;> try simp only [go_sem, seval, *]
  · refine ite_K h (fun c4 h => ?_) (fun c4 h => ?_) <;> try simp only [go_sem, seval, *]
    · obtain ⟨v3, e5, h⟩ := bind_K h
      refine call_K (by have hh := i_compareInts_ok e5; first | exact hh | (simp only [go_sem, *] at hh; exact hh)) ?_
      obtain rfl := Option.some.inj h
      try simp only [go_sem, seval, *]
    · obtain rfl := Option.some.inj h
      try simp only [go_sem, seval, *]
  · refine ite_K h (fun c6 h => ?_) (fun c6 h => ?_) <;> try simp only [go_sem, seval, *]
    · obtain rfl := Option.some.inj h
      try simp only [go_sem, seval, *]
    · obtain ⟨v4, e7, h⟩ := bind_K h
      refine call_K (by have hh := x_Compare_ok e7; first | exact hh | (simp only [go_sem, *] at hh; exact hh)) ?_
      obtain rfl := Option.some.inj h
      try simp only [go_sem, seval, *]
theorem i_copyFacts_ok {l_0 : (List FactD)} {r : (List FactD)} (h : i_copyFacts l_0 = some r) : Sound Tryz.prog J0 41 [(false, [.sl 57 2 (List.map eFact l_0)])] [(false, [(false, .sl 57 2 (List.map eFact r))])] := by
  refine fnk Tryz.func41 (by kernel_rfl) rfl (by kernel_rfl) (by kernel_rfl) ?_
  unfold i_copyFacts at h
  simp only [fnS, f41, argSt, go_sem, seval]
  refine swp_for h (fun i row_5 st => IV [(3, .p false [.row 0]), (6, .p false [.c (.sl 57 2 (List.map eFact l_0))]), (7, .p false [.c (.int .i64 ((l_0.length : Nat) : Int))]), (8, .p false [.c (.int .i64 ((i : Nat) : Int))])] [.row 57 2 (List.map eFact row_5) 2] st) [(false, 3, 0)] [80] (by decide) ?_ ?_ ?_
  · simp only [go_sem, seval, *]
  · rintro i9 x10 row_5 ⟨sl, ob, n⟩ y1 hx2 hI3 hW4 h hy1
    simp only [go_sem, seval, str_len] at hI3
    obtain ⟨⟨g5_3, g5_6, g5_7, g5_8⟩, og5_0, hn⟩ := hI3
    subst hn
    have hlhx2 := WF.slotL hW4 g5_6 (j := 0) rfl
    have q6 := lt_t hx2
    have q7 := lt_p hx2
    have q8 := nat_in (lt_n hx2) hlhx2
    try simp only [go_sem, seval, *]
    obtain ⟨v11, e9, h⟩ := bind_K h
    refine call_K (by have hh := i_copyFact_ok e9; first | exact hh | (simp only [go_sem, *] at hh; exact hh)) ?_
    obtain ⟨p10, h⟩ := chk_K h
    try simp only [Nat.reduceLeDiff] at p10
    try simp only [go_sem, seval, *]
    refine ⟨_, [], [145], (Option.some.inj h).symm, by decide, ?_⟩
    try simp only [go_sem, seval, *]
  · rintro row_5 ⟨sl, ob, n⟩ hI11 hW12 h
    simp only [go_sem, seval, str_len] at hI11
    obtain ⟨⟨g13_3, g13_6, g13_7, g13_8⟩, og13_0, hn⟩ := hI11
    subst hn
    have q14 := lt_f (l_0.length)
    obtain rfl := Option.some.inj h
    try simp only [go_sem, seval, *]
theorem i_IsBinding_ok {b_0 : (List PairD)} {r : Bool} (h : i_IsBinding b_0 = some r) : Sound Tryz.prog J0 69 [(false, [.sl 119 2 (List.map ePair b_0)])] [(false, [(false, .bool r)])] := by
  refine fnk Tryz.func69 (by kernel_rfl) rfl (by kernel_rfl) (by kernel_rfl) ?_
  unfold i_IsBinding at h
  simp only [fnS, f69, argSt, go_sem, seval]
  refine ite_K h (fun c1 h => ?_) (fun c1 h => ?_) <;> try simp only [go_sem, seval, *]
  · obtain rfl := Option.some.inj h
    try simp only [go_sem, seval, *]
  · refine swp_for h (fun i _ st => IV [(0, .p false [.c (.sl 119 2 (List.map ePair b_0))]), (8, .p false [.c (.sl 119 2 (List.map ePair b_0))]), (9, .p false [.c (.int .i64 ((b_0.length : Nat) : Int))]), (10, .p false [.c (.int .i64 ((i : Nat) : Int))])] [] st) [] [] (by decide) ?_ ?_ ?_
    · simp only [go_sem, seval, *]
    · rintro i9 x10 ⟨⟩ ⟨sl, ob, n⟩ y2 hx3 hI4 hW5 h hy2
      simp only [go_sem, seval, str_len] at hI4
      obtain ⟨⟨g6_0, g6_8, g6_9, g6_10⟩, hn⟩ := hI4
      subst hn
      have hlhx3 := WF.slotL hW5 g6_0 (j := 0) rfl
      have q7 := lt_t hx3
      have q8 := lt_p hx3
      have q9 := nat_in (lt_n hx3) hlhx3
      try simp only [go_sem, seval, *]
      obtain ⟨v11, e10, h⟩ := bind_K h
      refine call_K (by have hh := i_IsVar_ok e10; first | exact hh | (simp only [go_sem, *] at hh; exact hh)) ?_
      try simp only [go_sem, seval, *]
      refine ite_K h (fun c11 h => ?_) (fun c11 h => ?_) <;> try simp only [go_sem, seval, *]
      · obtain ⟨v12, e12, h⟩ := bind_K h
        refine call_K (by have hh := i_IsAtom_ok e12; first | exact hh | (simp only [go_sem, *] at hh; exact hh)) ?_
        try simp only [go_sem, seval, *]
        refine ite_K h (fun c13 h => ?_) (fun c13 h => ?_) <;> try simp only [go_sem, seval, *]
        · refine ite_K h (fun c14 h => ?_) (fun c14 h => ?_) <;> try simp only [go_sem, seval, *]
          · obtain ⟨x13, a15, a16, e17, h⟩ := at_K h
            try simp only [go_sem, seval, *]
            refine ite_K h (fun c18 h => ?_) (fun c18 h => ?_) <;> try simp only [go_sem, seval, *]
            · refine ⟨_, [], [], (Option.some.inj h).symm, by decide, ?_⟩
              try simp only [go_sem, seval, *]
            · replace h := inr_K h hy2
              obtain rfl := Option.some.inj h
              try simp only [go_sem, seval, *]
          · refine ⟨_, [], [], (Option.some.inj h).symm, by decide, ?_⟩
            try simp only [go_sem, seval, *]
        · replace h := inr_K h hy2
          obtain rfl := Option.some.inj h
          try simp only [go_sem, seval, *]
      · replace h := inr_K h hy2
        obtain rfl := Option.some.inj h
        try simp only [go_sem, seval, *]
    · rintro ⟨⟩ ⟨sl, ob, n⟩ hI19 hW20 h
      simp only [go_sem, seval, str_len] at hI19
      obtain ⟨⟨g21_0, g21_8, g21_9, g21_10⟩, hn⟩ := hI19
      subst hn
      have q22 := lt_f (b_0.length)
      obtain rfl := Option.some.inj h
      try simp only [go_sem, seval, *]
theorem i_ValueOf_ok {b_0 : (List PairD)} {term_1 : ByteArray} {r : (ByteArray × Bool)} (h : i_ValueOf b_0 term_1 = some r) : Sound Tryz.prog J0 70 [(false, [.sl 119 2 (List.map ePair b_0)]), (false, [.str term_1])] [(false, [(false, .str r.1)]), (false, [(false, .bool r.2)])] := by
  refine fnk Tryz.func70 (by kernel_rfl) rfl (by kernel_rfl) (by kernel_rfl) ?_
  unfold i_ValueOf at h
  have ks0 : strOk ⟨#[]⟩ = true := by decide
  simp only [fnS, f70, argSt, go_sem, seval, ks0]
  obtain ⟨v1, e1, h⟩ := bind_K h
  refine call_K (by have hh := i_IsAtom_ok e1; first | exact hh | (simp only [go_sem, *] at hh; exact hh)) ?_
  try simp only [go_sem, seval, *]
  refine ite_K h (fun c2 h => ?_) (fun c2 h => ?_) <;> try simp only [go_sem, seval, *]
  · obtain rfl := Option.some.inj h
    try simp only [go_sem, seval, *]
  · obtain ⟨v2, e3, h⟩ := bind_K h
    refine call_K (by have hh := i_IsVar_ok e3; first | exact hh | (simp only [go_sem, *] at hh; exact hh)) ?_
    try simp only [go_sem, seval, *]
    refine ite_K h (fun c4 h => ?_) (fun c4 h => ?_) <;> try simp only [go_sem, seval, *]
    · refine swp_for h (fun i _ st => IV [(1, .p false [.c (.str term_1)]), (14, .p false [.c (.sl 119 2 (List.map ePair b_0))]), (15, .p false [.c (.int .i64 ((b_0.length : Nat) : Int))]), (16, .p false [.c (.int .i64 ((i : Nat) : Int))])] [] st) [] [] (by decide) ?_ ?_ ?_
      · simp only [go_sem, seval, *]
      · rintro i6 x7 ⟨⟩ ⟨sl, ob, n⟩ y5 hx6 hI7 hW8 h hy5
        simp only [go_sem, seval, str_len] at hI7
        obtain ⟨⟨g9_1, g9_14, g9_15, g9_16⟩, hn⟩ := hI7
        subst hn
        have hlhx6 := WF.slotL hW8 g9_14 (j := 0) rfl
        have q10 := lt_t hx6
        have q11 := lt_p hx6
        have q12 := nat_in (lt_n hx6) hlhx6
        try simp only [go_sem, seval, *]
        refine ite_K h (fun c13 h => ?_) (fun c13 h => ?_) <;> try simp only [go_sem, seval, *]
        · replace h := inr_K h hy5
          obtain rfl := Option.some.inj h
          try simp only [go_sem, seval, *]
        · refine ⟨_, [], [], (Option.some.inj h).symm, by decide, ?_⟩
          try simp only [go_sem, seval, *]
      · rintro ⟨⟩ ⟨sl, ob, n⟩ hI14 hW15 h
        simp only [go_sem, seval, str_len] at hI14
        obtain ⟨⟨g16_1, g16_14, g16_15, g16_16⟩, hn⟩ := hI14
        subst hn
        have q17 := lt_f (b_0.length)
        obtain rfl := Option.some.inj h
        try simp only [go_sem, seval, *]
    · obtain rfl := Option.some.inj h
      try simp only [go_sem, seval, *]
theorem i_FindFact_ok {l_0 : (List FactD)} {f_1 : FactD} {r : Int} (h : i_FindFact l_0 f_1 = some r) : Sound Tryz.prog J0 32 [(false, [.sl 57 2 (List.map eFact l_0)]), (true, eFact f_1)] [(false, [(false, .int .i64 r)])] := by
  refine fnk Tryz.func32 (by kernel_rfl) rfl (by kernel_rfl) (by kernel_rfl) ?_
  unfold i_FindFact at h
  simp only [fnS, f32, argSt, go_sem, seval]
  refine swp_for h (fun i _ st => IV [(3, .bp 0 0), (7, .p false [.c (.sl 57 2 (List.map eFact l_0))]), (8, .p false [.c (.int .i64 ((l_0.length : Nat) : Int))]), (9, .p false [.c (.int .i64 ((i : Nat) : Int))])] [.box 57 [.c (.str f_1.rel), .c (.sl 9 1 (List.map eStr f_1.args))]] st) [] [0] (by decide) ?_ ?_ ?_
  · simp only [go_sem, seval, *]
  · rintro i6 x7 ⟨⟩ ⟨sl, ob, n⟩ y1 hx2 hI3 hW4 h hy1
    simp only [go_sem, seval, str_len] at hI3
    obtain ⟨⟨g5_3, g5_7, g5_8, g5_9⟩, og5_0, hn⟩ := hI3
    subst hn
    have hlhx2 := WF.slotL hW4 g5_7 (j := 0) rfl
    have q6 := lt_t hx2
    have q7 := lt_p hx2
    have q8 := nat_in (lt_n hx2) hlhx2
    try simp only [go_sem, seval, *]
    obtain ⟨v8, e9, h⟩ := bind_K h
    refine call_K (by have hh := i_sameFact_ok e9; first | exact hh | (simp only [go_sem, *] at hh; exact hh)) ?_
    try simp only [go_sem, seval, *]
    refine ite_K h (fun c10 h => ?_) (fun c10 h => ?_) <;> try simp only [go_sem, seval, *]
    · replace h := inr_K h hy1
      obtain rfl := Option.some.inj h
      try simp only [go_sem, seval, *]
    · refine ⟨_, [], [0], (Option.some.inj h).symm, by decide, ?_⟩
      try simp only [go_sem, seval, *]
  · rintro ⟨⟩ ⟨sl, ob, n⟩ hI11 hW12 h
    simp only [go_sem, seval, str_len] at hI11
    obtain ⟨⟨g13_3, g13_7, g13_8, g13_9⟩, og13_0, hn⟩ := hI11
    subst hn
    have q14 := lt_f (l_0.length)
    obtain rfl := Option.some.inj h
    try simp only [go_sem, seval, *]
theorem s_RelDepends_ok {append_0 : (List RuleD)} {String_1 : ByteArray} {a_2 : ByteArray} {r : Bool} (h : s_RelDepends append_0 String_1 a_2 = some r) : Sound Tryz.prog J0 77 [(false, [.sl 52 4 (List.map eRule append_0)]), (false, [.str String_1]), (false, [.str a_2])] [(false, [(false, .bool r)])] := by
  refine fnk Tryz.func77 (by kernel_rfl) rfl (by kernel_rfl) (by kernel_rfl) ?_
  unfold s_RelDepends at h
  simp only [fnS, f77, argSt, go_sem, seval]
  refine swp_iter h (fun s st => match s with | (row_55, u_56) => IV [(0, .p false [.c (.sl 52 4 (List.map eRule append_0))]), (2, .p false [.c (.str a_2)]), (7, .p false [.row 0]), (8, .p false [.c (.int .i64 u_56)])] [.row 9 1 (List.map eStr row_55) 2] st) [] [32] (by decide) ?_ ?_
  · simp only [go_sem, seval, *]
  · rintro ⟨row_55, u_56⟩ ⟨sl, ob, n⟩ y1 hI2 hW3 h hy1
    simp only [go_sem, seval, str_len] at hI2
    obtain ⟨⟨g4_0, g4_2, g4_7, g4_8⟩, og4_0, hn⟩ := hI2
    subst hn
    try simp only [go_sem, seval, *]
    refine ite_K h (fun c5 h => ?_) (fun c5 h => ?_) <;> try simp only [go_sem, seval, *]
    · refine swp_for h (fun i row_74 st => IV [(0, .p false [.c (.sl 52 4 (List.map eRule append_0))]), (2, .p false [.c (.str a_2)]), (7, .p false [.row 0]), (8, .p false [.c (.int .i64 u_56)]), (9, .p false [.c (.int .i64 ((i : Nat) : Int))])] [.row 9 1 (List.map eStr row_74) 2] st) [] [0] (by decide) ?_ ?_ ?_
      · simp only [go_sem, seval, *]
      · rintro i93 x94 row_74 ⟨sl, ob, n⟩ y6 hx7 hI8 hW9 h hy6
        simp only [go_sem, seval, str_len] at hI8
        obtain ⟨⟨g10_0, g10_2, g10_7, g10_8, g10_9⟩, og10_0, hn⟩ := hI8
        subst hn
        have hlhx7 := WF.slotL hW9 g10_0 (j := 0) rfl
        have q11 := lt_t hx7
        have q12 := lt_p hx7
        have q13 := nat_in (lt_n hx7) hlhx7
        try simp only [go_sem, seval, *]
        obtain ⟨v95, e14, h⟩ := bind_K h
        refine call_K (by have hh := s_WritesOf_ok e14; first | exact hh | (simp only [go_sem, *] at hh; exact hh)) ?_
        obtain ⟨p15, h⟩ := chk_K h
        obtain ⟨x96, e16, h⟩ := bind_K h
        try simp only [go_sem, seval, *]
        obtain ⟨v97, e17, h⟩ := bind_K h
        refine call_K (by have hh := s_l1HasText_ok e17; first | exact hh | (simp only [go_sem, *] at hh; exact hh)) ?_
        try simp only [go_sem, seval, *]
        refine ite_K h (fun c18 h => ?_) (fun c18 h => ?_) <;> try simp only [go_sem, seval, *]
        · obtain ⟨v98, e19, h⟩ := bind_K h
          refine call_K (by have hh := s_ReadsOf_ok e19; first | exact hh | (simp only [go_sem, *] at hh; exact hh)) ?_
          try simp only [go_sem, seval, *]
          obtain ⟨v99, e20, h⟩ := bind_K h
          refine call_K (by have hh := s_l1HasText_ok e20; first | exact hh | (simp only [go_sem, *] at hh; exact hh)) ?_
          try simp only [go_sem, seval, *]
          refine ite_K h (fun c21 h => ?_) (fun c21 h => ?_) <;> try simp only [go_sem, seval, *]
          · replace h := inr_K h hy6
            replace h := inr_K h hy1
            obtain rfl := Option.some.inj h
            try simp only [go_sem, seval, *]
          · refine swp_for h (fun i row_105 st => IV [(0, .p false [.c (.sl 52 4 (List.map eRule append_0))]), (2, .p false [.c (.str a_2)]), (7, .p false [.row 0]), (8, .p false [.c (.int .i64 u_56)]), (9, .p false [.c (.int .i64 ((i93 : Nat) : Int))]), (10, .p false [.row 1]), (11, .p false [.c (.int .i64 ((i : Nat) : Int))])] [.row 9 1 (List.map eStr row_105) 2, .row 9 1 (List.map eStr v98) 2] st) [] [0, 305] (by decide) ?_ ?_ ?_
            · simp only [go_sem, seval, *]
            · rintro i108 x109 row_105 ⟨sl, ob, n⟩ y22 hx23 hI24 hW25 h hy22
              simp only [go_sem, seval, str_len] at hI24
              obtain ⟨⟨g26_0, g26_2, g26_7, g26_8, g26_9, g26_10, g26_11⟩, og26_0, og26_1, hn⟩ := hI24
              subst hn
              have hlhx23 := WF.rowL hW25 og26_1
              have q27 := lt_t hx23
              have q28 := lt_p hx23
              have q29 := nat_in (lt_n hx23) hlhx23
              try simp only [go_sem, seval, *]
              obtain ⟨v110, e30, h⟩ := bind_K h
              refine call_K (by have hh := s_l1HasText_ok e30; first | exact hh | (simp only [go_sem, *] at hh; exact hh)) ?_
              try simp only [go_sem, seval, *]
              refine ite_K h (fun c31 h => ?_) (fun c31 h => ?_) <;> try simp only [go_sem, seval, *]
              · refine ⟨_, [], [0, 1], (Option.some.inj h).symm, by decide, ?_⟩
                try simp only [go_sem, seval, *]
              · obtain ⟨p32, h⟩ := chk_K h
                try simp only [Nat.reduceLeDiff] at p32
                try simp only [go_sem, seval, *]
                refine ⟨_, [], [274, 1], (Option.some.inj h).symm, by decide, ?_⟩
                try simp only [go_sem, seval, *]
            · rintro row_105 ⟨sl, ob, n⟩ hI33 hW34 h
              simp only [go_sem, seval, str_len] at hI33
              obtain ⟨⟨g35_0, g35_2, g35_7, g35_8, g35_9, g35_10, g35_11⟩, og35_0, og35_1, hn⟩ := hI33
              subst hn
              have q36 := lt_f (v98.length)
              try simp only [go_sem, seval, *]
              refine ⟨_, [], [0], (Option.some.inj h).symm, by decide, ?_⟩
              try simp only [go_sem, seval, *]
        · refine ⟨_, [], [0], (Option.some.inj h).symm, by decide, ?_⟩
          try simp only [go_sem, seval, *]
      · rintro row_74 ⟨sl, ob, n⟩ hI37 hW38 h
        simp only [go_sem, seval, str_len] at hI37
        obtain ⟨⟨g39_0, g39_2, g39_7, g39_8, g39_9⟩, og39_0, hn⟩ := hI37
        subst hn
        have q40 := lt_f (append_0.length)
        try simp only [go_sem, seval, *]
        refine ⟨_, [], [0], (Option.some.inj h).symm, by decide, ?_⟩
        try simp only [go_sem, seval, *]
    · replace h := inr_K h hy1
      obtain rfl := Option.some.inj h
      try simp only [go_sem, seval, *]
theorem i_relReach_ok {rules_0 : (List RuleD)} {a_1 : ByteArray} {r : (List (ByteArray × Bool))} (h : i_relReach rules_0 a_1 = some r) : SoundB Tryz.prog J0 81 [(false, [.sl 52 4 (List.map eRule rules_0)]), (false, [.str a_1])] (.map .str .bool (List.map eSB r)) := by
  refine fnb Tryz.func81 (by kernel_rfl) rfl (by kernel_rfl) (by kernel_rfl) ?_
  unfold i_relReach at h
  simp only [fnB, f81, argSt, go_sem, seval]
  refine swp_iter h (fun s st => match s with | (mp_42, row_43) => IV [(0, .p false [.c (.sl 52 4 (List.map eRule rules_0))]), (5, .p false [.row 0]), (6, .p false [.row 1])] [.map .str .bool (List.map eSB mp_42), .row 9 1 (List.map eStr row_43) 2] st) [] [16, 64] (by decide) ?_ ?_
  · simp only [go_sem, seval, *]
  · rintro ⟨mp_42, row_43⟩ ⟨sl, ob, n⟩ y1 hI2 hW3 h hy1
    simp only [go_sem, seval, str_len] at hI2
    obtain ⟨⟨g4_0, g4_5, g4_6⟩, og4_0, og4_1, hn⟩ := hI2
    subst hn
    try simp only [go_sem, seval, *]
    refine ite_K h (fun c5 h => ?_) (fun c5 h => ?_) <;> try simp only [go_sem, seval, *]
    · obtain ⟨p6, h⟩ := chk_K h
      obtain ⟨x44, e7, h⟩ := bind_K h
      try simp only [seval] at e7
      obtain ⟨p8, h⟩ := chk_K h
      try simp only [go_sem, seval, *]
      refine swp_for h (fun i s st => match s with | (mp_57, row_58) => IV [(0, .p false [.c (.sl 52 4 (List.map eRule rules_0))]), (5, .p false [.row 0]), (6, .p false [.row 1]), (7, .p false [.c (.str x44)]), (23, .p false [.c (.sl 52 4 (List.map eRule rules_0))]), (24, .p false [.c (.int .i64 ((rules_0.length : Nat) : Int))]), (25, .p false [.c (.int .i64 ((i : Nat) : Int))])] [.map .str .bool (List.map eSB mp_57), .row 9 1 (List.map eStr row_58) 2] st) [] [0, 130] (by decide) ?_ ?_ ?_
      · simp only [go_sem, seval, *]
      · rintro i72 x73 ⟨mp_57, row_58⟩ ⟨sl, ob, n⟩ y9 hx10 hI11 hW12 h hy9
        simp only [go_sem, seval, str_len] at hI11
        obtain ⟨⟨g13_0, g13_5, g13_6, g13_7, g13_23, g13_24, g13_25⟩, og13_0, og13_1, hn⟩ := hI11
        subst hn
        have hlhx10 := WF.slotL hW12 g13_0 (j := 0) rfl
        have q14 := lt_t hx10
        have q15 := lt_p hx10
        have q16 := nat_in (lt_n hx10) hlhx10
        try simp only [go_sem, seval, *]
        obtain ⟨v74, e17, h⟩ := bind_K h
        refine call_K (by have hh := i_WritesOf_ok e17; first | exact hh | (simp only [go_sem, *] at hh; exact hh)) ?_
        try simp only [go_sem, seval, *]
        obtain ⟨v75, e18, h⟩ := bind_K h
        refine call_K (by have hh := i_hasText_ok e18; first | exact hh | (simp only [go_sem, *] at hh; exact hh)) ?_
        try simp only [go_sem, seval, *]
        refine ite_K h (fun c19 h => ?_) (fun c19 h => ?_) <;> try simp only [go_sem, seval, *]
        · obtain ⟨v76, e20, h⟩ := bind_K h
          refine call_K (by have hh := i_ReadsOf_ok e20; first | exact hh | (simp only [go_sem, *] at hh; exact hh)) ?_
          try simp only [go_sem, seval, *]
          refine swp_for h (fun i s st => match s with | (mp_80, row_81) => IV [(0, .p false [.c (.sl 52 4 (List.map eRule rules_0))]), (5, .p false [.row 0]), (6, .p false [.row 1]), (7, .p false [.c (.str x44)]), (23, .p false [.c (.sl 52 4 (List.map eRule rules_0))]), (24, .p false [.c (.int .i64 ((rules_0.length : Nat) : Int))]), (25, .p false [.c (.int .i64 ((i72 : Nat) : Int))]), (35, .p false [.row 2]), (36, .p false [.c (.int .i64 ((v76.length : Nat) : Int))]), (37, .p false [.c (.int .i64 ((i : Nat) : Int))])] [.map .str .bool (List.map eSB mp_80), .row 9 1 (List.map eStr row_81) 2, .row 9 1 (List.map eStr v76) 2] st) [] [0, 1, 178] (by decide) ?_ ?_ ?_
          · simp only [go_sem, seval, *]
          · rintro i83 x84 ⟨mp_80, row_81⟩ ⟨sl, ob, n⟩ y21 hx22 hI23 hW24 h hy21
            simp only [go_sem, seval, str_len] at hI23
            obtain ⟨⟨g25_0, g25_5, g25_6, g25_7, g25_23, g25_24, g25_25, g25_35, g25_36, g25_37⟩, og25_0, og25_1, og25_2, hn⟩ := hI23
            subst hn
            have hlhx22 := WF.rowL hW24 og25_2
            have q26 := lt_t hx22
            have q27 := lt_p hx22
            have q28 := nat_in (lt_n hx22) hlhx22
            try simp only [go_sem, seval, *]
            refine ite_K h (fun c29 h => ?_) (fun c29 h => ?_) <;> try simp only [go_sem, seval, *]
            · refine ⟨_, [], [0, 1, 2], (Option.some.inj h).symm, by decide, ?_⟩
              try simp only [go_sem, seval, *]
            · obtain ⟨p30, h⟩ := chk_K h
              try simp only [Nat.reduceLeDiff] at p30
              try simp only [go_sem, seval, *]
              refine ⟨_, [], [0, 227, 2], (Option.some.inj h).symm, by decide, ?_⟩
              try simp only [go_sem, seval, *]
          · rintro ⟨mp_80, row_81⟩ ⟨sl, ob, n⟩ hI31 hW32 h
            simp only [go_sem, seval, str_len] at hI31
            obtain ⟨⟨g33_0, g33_5, g33_6, g33_7, g33_23, g33_24, g33_25, g33_35, g33_36, g33_37⟩, og33_0, og33_1, og33_2, hn⟩ := hI31
            subst hn
            have q34 := lt_f (v76.length)
            try simp only [go_sem, seval, *]
            refine ⟨_, [], [0, 1], (Option.some.inj h).symm, by decide, ?_⟩
            try simp only [go_sem, seval, *]
        · refine ⟨_, [], [0, 1], (Option.some.inj h).symm, by decide, ?_⟩
          try simp only [go_sem, seval, *]
      · rintro ⟨mp_57, row_58⟩ ⟨sl, ob, n⟩ hI35 hW36 h
        simp only [go_sem, seval, str_len] at hI35
        obtain ⟨⟨g37_0, g37_5, g37_6, g37_7, g37_23, g37_24, g37_25⟩, og37_0, og37_1, hn⟩ := hI35
        subst hn
        have q38 := lt_f (rules_0.length)
        try simp only [go_sem, seval, *]
        refine ⟨_, [], [0, 1], (Option.some.inj h).symm, by decide, ?_⟩
        try simp only [go_sem, seval, *]
    · replace h := inr_K h hy1
      obtain rfl := Option.some.inj h
      try simp only [go_sem, seval, *]
end Go.Proofs.YtlkgkkacnoaeaaaGreatDoor
