/- A region in any order that its edges allow. -/
import Derived.Test.YtfmplnebdldpdaaBDraw
namespace Go.Proofs.Ytfmplnebdldpdaa
open Go.RowKit
section
variable {P : Program} {W : World} {U : Nat → Prop} {key : Nat} {st st' : St} {w w' : World} {a : Act} {tt : Nat → Option TI} {Q : Exit → Act → World → Prop}
/-- a state that some frame and world bear out -/
def Real (W : World) (N : Nat) (U : Nat → Prop) (st : St) : Prop := ∃ a w, Inv W U st a w ∧ a.tmps.size = N
theorem opR_real (htt : ∀ t i, tt t = some i → TOk P t i) {N : Nat} {all : List Oper} {o : Oper} {v : SV} {u : List (Nat × Ob)} (h : opR tt (Sound P) all key o st v u) (hR : Real W N U st) (hkey : ∀ k, key ≤ k → k < key + 16 → ¬ U k) (hd : ∀ t, o.dst = some t → t < N) :
    Real W N (Uk U key) ((st.put o.dst v).app u) := by
  obtain ⟨a, w, hI, hN⟩ := hR
  have hd' : ∀ t, o.dst = some t → t < a.tmps.size := fun t ht => hN ▸ hd t ht
  have und : v = .und ∧ u = [] → Real W N (Uk U key) ((st.put o.dst v).app u) := fun ⟨e1, e2⟩ => by
    subst e1 e2
    exact ⟨_, w, und_inv hI _ hd', by rw [put_tmps]; exact hN⟩
  have run : opRS tt (Sound P) key o st v u → Real W N (Uk U key) ((st.put o.dst v).app u) := fun h => by
    obtain ⟨⟨g, hH, hS⟩, hU, hdef⟩ := hI
    cases hc : goCall o.op with
    | some c =>
      simp only [opRS, hc] at h
      obtain ⟨l, res, h1, ⟨_, h2⟩, h3, rfl, rfl⟩ := h
      have hargs : All2 (SVR g w) (evs tt st c.2.1 c.2.2) (c.2.2.map a.eval) := by
        have e : c.2.2.map a.eval = (zipT c.2.1 c.2.2).map fun p => a.eval p.2 := by
          have := congrArg (List.map a.eval) (zipT_snd c.2.1 c.2.2)
          rw [← this, List.map_map]; rfl
        rw [e]
        exact All2.of_map _ _ fun p _ => (ev_ok htt hS hU p.1 p.2).1
      obtain ⟨e, w', fr, ⟨rv, _, hv, hb⟩, _⟩ := h2 w (c.2.2.map a.eval) (svArgs_ok hH h1 hargs) []
      obtain ⟨g', t1, t2, t3, t4, t5, t6⟩ := call_turn hH hU hkey hv hb h3
      exact ⟨_, _, put_inv hS hU hdef hd' t1 t2 t3 t4 t5 t6, by rw [put_tmps]; exact hN⟩
    | none =>
      simp only [opRS, hc] at h
      obtain ⟨g', cv, w', _, t1, t2, t3, t4, t5, t6⟩ := opE_sound (P := P) (W := W) (a := a) htt o h hH hS hU (hkey key (Nat.le_refl _) (by omega))
      exact ⟨_, _, put_inv hS hU hdef hd' t1 t2 t3 t4 t5 t6, by rw [put_tmps]; exact hN⟩
  unfold opR at h
  split at h
  · exact run h
  · exact und h
  · unfold gK at h
    split at h
    · split at h
      · exact run h
      · exact und h
    · split at h
      · exact und h
      · exact h.elim
/-- operations by their numbers -/
def opsI (tt : Nat → Option TI) (S : Ctx) (all : List Oper) (base : Nat) : List Nat → (St → Prop) → St → Prop
  | [], K, st => K st
  | i :: r, K, st => match all[i]? with
    | some o => opG tt S all (base + 16 * i) o (opsI tt S all base r K) st
    | none => opsI tt S all base r K st
theorem opsI_cons {S : Ctx} {all : List Oper} {base i : Nat} {r : List Nat} {K : St → Prop} {o : Oper} (ho : all[i]? = some o) : opsI tt S all base (i :: r) K st = opG tt S all (base + 16 * i) o (opsI tt S all base r K) st := by simp only [opsI, ho]
theorem opsI_of {S : Ctx} {all : List Oper} {base : Nat} {K : St → Prop} : ∀ (r : List Oper) (i : Nat) (st : St), all.drop i = r → opsS tt S all (base + 16 * i) r K st → opsI tt S all base (List.range' i r.length) K st
  | [], _, _, _, h => h
  | o :: r, i, st, hr, h => by
    have hi : all[i]? = some o := by
      have := congrArg (fun l => l[0]?) hr
      simpa using this
    have hr' : all.drop (i + 1) = r := by
      have := congrArg List.tail hr
      simpa using this
    rw [List.length_cons, List.range'_succ, opsI_cons hi]
    obtain ⟨v, u, h1, h2⟩ := opG_iff.1 h
    refine opG_iff.2 ⟨v, u, h1, opsI_of r (i + 1) _ hr' ?_⟩
    rw [show base + 16 * (i + 1) = base + 16 * i + 16 by omega]
    exact h2
/-- an operation that may change places with those before it is taken first -/
theorem front (htt : ∀ t i, tt t = some i → TOk P t i) {ops : Array Oper} {N base i : Nat} {o : Oper} (ho : ops.toList[i]? = some o) (hN : ∀ o ∈ ops.toList, ∀ t, o.dst = some t → t < N) {K : St → Prop} {R2 : List Nat} : ∀ (R1 : List Nat) (U : Nat → Prop) (st : St), (R1 ++ i :: R2).Nodup →
    (∀ j ∈ R1, ∃ oj, ops.toList[j]? = some oj ∧ oj.apart ops o = true ∧ clsOk oj.op o.op = true) → (∀ j ∈ R1 ++ i :: R2, ∀ k, base + 16 * j ≤ k → k < base + 16 * j + 16 → ¬ U k) → Real W N U st →
    opsI tt (Sound P) ops.toList base (R1 ++ i :: R2) K st → opG tt (Sound P) ops.toList (base + 16 * i) o (opsI tt (Sound P) ops.toList base (R1 ++ R2) K) st
  | [], U, st, _, _, _, _, h => by rw [List.nil_append, opsI_cons ho] at h; exact h
  | j :: R1, U, st, hnd, hcomp, hk, hR, h => by
    obtain ⟨oj, hj, hap, hcl⟩ := hcomp j (by simp)
    rw [List.cons_append, opsI_cons hj] at h
    obtain ⟨vj, uj, h1, h2⟩ := opG_iff.1 h
    have hkj := hk j (by simp)
    have hki := hk i (by simp)
    rw [List.cons_append, List.nodup_cons] at hnd
    have hij : i ≠ j := fun e => hnd.1 (by simp [e])
    have hR1 := opR_real htt h1 hR hkj (hN oj (List.mem_of_getElem? hj))
    have h3 := front htt ho hN R1 (Uk U (base + 16 * j)) _ hnd.2 (fun q mq => hcomp q (by simp [mq])) (fun q mq k a b hU => by
      rcases hU with hU | ⟨c, d⟩
      · exact hk q (by simp; simp at mq; exact .inr mq) k a b hU
      · have : q = j := by omega
        subst this
        exact hnd.1 mq) hR1 h2
    obtain ⟨vi, ui, h4, h5⟩ := opG_iff.1 h3
    obtain ⟨_, _, hIn, _⟩ := hR
    obtain ⟨c1, c2, c3⟩ := comm hap hcl hIn.wf hkj hki (by omega) h1 h4
    refine opG_iff.2 ⟨vi, ui, c1, ?_⟩
    rw [List.cons_append, opsI_cons hj]
    exact opG_iff.2 ⟨vj, uj, c2, c3 ▸ h5⟩
/-- the operations ahead of one, by the edges -/
def anc (ops : Array Oper) : Nat → Nat → List Nat
  | 0, _ => []
  | n + 1, j => match ops[j]? with
    | some o => (o.after.toList.filter (Region.binds .any)).flatMap fun e => e.on :: anc ops n e.on
    | none => []
def drawOk (ops : Array Oper) : Bool :=
  (List.range ops.size).all fun j => match ops[j]? with
    | some oj => (oj.after.toList.all fun e => !Region.binds .any e || Nat.blt e.on j) &&
      (List.range j).all fun i => (anc ops ops.size j).contains i || match ops[i]? with
        | some oi => oi.apart ops oj && clsOk oi.op oj.op
        | none => true
    | none => true
theorem anc_listed {ops : Array Oper} {listed : Array Bool} (hcl : ∀ i o, ops[i]? = some o → listed.getD i false = true → ∀ e ∈ o.after, Region.binds .any e = true → listed.getD e.on false = true) :
    ∀ (n j : Nat) (o : Oper), ops[j]? = some o → (∀ e ∈ o.after, Region.binds .any e = true → listed.getD e.on false = true) → ∀ i ∈ anc ops n j, listed.getD i false = true
  | 0, j, o, _, _, i, mi => by simp [anc] at mi
  | n + 1, j, o, ho, he, i, mi => by
    simp only [anc, ho, List.mem_flatMap, List.mem_filter] at mi
    obtain ⟨e, ⟨me, hb⟩, mi⟩ := mi
    have hl := he e (by simpa using me) hb
    rcases List.mem_cons.1 mi with rfl | mi
    · exact hl
    · cases ho' : ops[e.on]? with
      | none => cases n <;> simp [anc, ho'] at mi
      | some o' => exact anc_listed hcl n e.on o' ho' (fun e' me' hb' => hcl e.on o' ho' hl e' me' hb') i mi
theorem any_sound (htt : ∀ t i, tt t = some i → TOk P t i) {ops : Array Oper} {N base : Nat} (hN : ∀ o ∈ ops.toList, ∀ t, o.dst = some t → t < N) (hok : drawOk ops = true) {K : St → Prop}
    (hQ : ∀ U' st' a' w', Inv W U' st' a' w' → (∀ k, base + 16 * ops.size ≤ k → ¬ U' k) → a'.tmps.size = N → K st' → Q .normal a' w') :
    ∀ (fuel : Nat) (R : List Nat) (listed : Array Bool) (U : Nat → Prop) (st : St) (a : Act) (w : World), R.length ≤ fuel → R.Pairwise (· < ·) → listed.size = ops.size → (∀ i, i ∈ R ↔ (i < ops.size ∧ listed.getD i true = false)) →
      (∀ i o, ops[i]? = some o → listed.getD i false = true → ∀ e ∈ o.after, Region.binds .any e = true → listed.getD e.on false = true) →
      opsI tt (Sound P) ops.toList base R K st → Inv W U st a w → (∀ j ∈ R, ∀ k, base + 16 * j ≤ k → k < base + 16 * j + 16 → ¬ U k) → (∀ k, base + 16 * ops.size ≤ k → ¬ U k) → a.tmps.size = N → wpAny P .any ops Q fuel listed a w := by
  have hall : ∀ j oj, ops[j]? = some oj → (∀ e ∈ oj.after, Region.binds .any e = true → e.on < j) ∧ ∀ i oi, i < j → ops[i]? = some oi → i ∉ anc ops ops.size j → oi.apart ops oj = true ∧ clsOk oi.op oj.op = true := fun j oj hj => by
    have hjn : j < ops.size := (Array.getElem?_eq_some_iff.1 hj).1
    have h1 := List.all_eq_true.1 hok j (by simpa using hjn)
    simp only [hj, Bool.and_eq_true, List.all_eq_true] at h1
    refine ⟨fun e me hb => ?_, fun i oi hij hi hn => ?_⟩
    · have := h1.1 e (by simpa using me)
      simp only [hb, Bool.not_true, Bool.false_or] at this
      exact Nat.le_of_ble_eq_true this
    · have := h1.2 i (by simpa using hij)
      simp only [hi, Bool.or_eq_true, Bool.and_eq_true] at this
      rcases this with this | this
      · exact absurd (by simpa using this) hn
      · exact this
  intro fuel
  induction fuel with
  | zero =>
    intro R listed U st a w hlen _ hsz hmem _ h hI _ hU hs
    have hR : R = [] := List.eq_nil_of_length_eq_zero (by omega)
    subst hR
    refine ⟨?_, hQ U st a w hI hU hs h⟩
    rw [List.eq_nil_iff_forall_not_mem]
    intro i mi
    obtain ⟨h1, o, h2, _⟩ := mem_ready.1 mi
    exact absurd ((hmem i).2 ⟨(Array.getElem?_eq_some_iff.1 h2).1, h1⟩) (by simp)
  | succ fuel ih =>
    intro R listed U st a w hlen hso hsz hmem hcl h hI hk hU hs
    refine ⟨fun hr => ?_, fun i mi => ?_⟩
    · cases R with
      | nil => exact hQ U st a w hI hU hs h
      | cons r0 R =>
        exfalso
        obtain ⟨m1, m2⟩ := (hmem r0).1 (by simp)
        have : r0 ∈ Region.ready .any ops listed := mem_ready.2 ⟨m2, ops[r0], by simp [m1], fun e me hb => by
          have hlt := (hall r0 ops[r0] (by simp [m1])).1 e me hb
          by_cases hl : listed.getD e.on true = false
          · have mR := (hmem e.on).2 ⟨by omega, hl⟩
            rcases List.mem_cons.1 mR with e1 | mR
            · omega
            · have := (List.pairwise_cons.1 hso).1 _ mR; omega
          · have hlt2 : e.on < listed.size := by omega
            simp only [Array.getD_eq_getD_getElem?, hlt2, getElem?_pos, Option.getD_some, Bool.not_eq_false] at hl ⊢
            exact hl⟩
        rw [hr] at this
        simp at this
    · obtain ⟨i1, o, i2, i3⟩ := mem_ready.1 mi
      have hin : i < ops.size := (Array.getElem?_eq_some_iff.1 i2).1
      have miR : i ∈ R := (hmem i).2 ⟨hin, i1⟩
      obtain ⟨R1, R2, rfl⟩ := List.append_of_mem miR
      have hnd : (R1 ++ i :: R2).Nodup := hso.imp fun h => Nat.ne_of_lt h
      have ho : ops.toList[i]? = some o := by simpa using i2
      have hanc := anc_listed hcl ops.size i o i2 i3
      have hcomp : ∀ j ∈ R1, ∃ oj, ops.toList[j]? = some oj ∧ oj.apart ops o = true ∧ clsOk oj.op o.op = true := fun j mj => by
        obtain ⟨j1, j2⟩ := (hmem j).1 (by simp [mj])
        have hji : j < i := (List.pairwise_append.1 hso).2.2 j mj i (by simp)
        have hj : ops[j]? = some ops[j] := by simp [j1]
        refine ⟨ops[j], by simp [j1], (hall i o i2).2 j _ hji hj fun ma => ?_⟩
        have := hanc j ma
        have hlt : j < listed.size := by omega
        simp only [Array.getD_eq_getD_getElem?, hlt, getElem?_pos, Option.getD_some] at this j2
        rw [this] at j2; simp at j2
      have hfr := front htt ho hN R1 U st hnd hcomp hk ⟨a, w, hI, hs⟩ h
      refine wpOp_mono ?_ (opG_sound htt i2 hfr hI (hk i (by simp)) (fun t ht => by rw [hs]; exact hN o (List.mem_of_getElem? ho) t ht))
      rintro a' w' ⟨st', hI', hs', hK'⟩
      have hset : ∀ q, (listed.setIfInBounds i true).getD q true = if q = i then true else listed.getD q true := fun q => by
        by_cases e : q = i
        · subst e; simp [Array.getD_eq_getD_getElem?, Array.getElem?_setIfInBounds, hsz, hin]
        · simp [Array.getD_eq_getD_getElem?, Array.getElem?_setIfInBounds_ne (fun e' : i = q => e e'.symm), e]
      have hset' : ∀ q, (listed.setIfInBounds i true).getD q false = if q = i then true else listed.getD q false := fun q => by
        by_cases e : q = i
        · subst e; simp [Array.getD_eq_getD_getElem?, Array.getElem?_setIfInBounds, hsz, hin]
        · simp [Array.getD_eq_getD_getElem?, Array.getElem?_setIfInBounds_ne (fun e' : i = q => e e'.symm), e]
      have hnotin : i ∉ R1 ++ R2 := by
        rw [List.nodup_append] at hnd
        intro m
        rcases List.mem_append.1 m with m | m
        · exact hnd.2.2 i m i (by simp) rfl
        · exact (List.nodup_cons.1 hnd.2.1).1 m
      refine ih (R1 ++ R2) _ (Uk U (base + 16 * i)) st' a' w' (by simp at hlen ⊢; omega) (hso.sublist (List.Sublist.append (List.Sublist.refl _) (List.sublist_cons_self i R2))) (by simp [hsz]) (fun q => ?_) (fun q oq hq hl e me hb => ?_) hK' hI' (fun q mq k c d hU' => ?_) (fun k hk' hU' => ?_) (by omega)
      · rw [hset q]
        by_cases e : q = i
        · subst e; simp only [if_true, Bool.true_eq_false, and_false, iff_false]; exact hnotin
        · rw [if_neg e, ← hmem q]; simp [e]
      · rw [hset'] at hl ⊢
        by_cases e1 : e.on = i
        · simp [e1]
        · rw [if_neg e1]
          by_cases e2 : q = i
          · subst e2
            rw [i2] at hq
            simp only [Option.some.injEq] at hq
            subst hq
            exact i3 e me hb
          · rw [if_neg e2] at hl
            exact hcl q oq hq hl e me hb
      · have mq' : q ∈ R1 ++ i :: R2 := by simp at mq ⊢; rcases mq with mq | mq <;> simp [mq]
        rcases hU' with hU' | ⟨c', d'⟩
        · exact hk q mq' k c d hU'
        · have : q = i := by omega
          subst this
          exact hnotin mq
      · rcases hU' with hU' | ⟨c', d'⟩
        · exact hU k hk' hU'
        · omega
end
end Go.Proofs.Ytfmplnebdldpdaa
