/- Regions whose order is open: operations that are apart may change places. -/
import Derived.Test.YtfmplnebdldpdaaBReg
import Derived.Orders
namespace Go.Proofs.Ytfmplnebdldpdaa
open Go.RowKit
/-- 0: looks at slots alone; 1: looks at rows and boxes, or makes one; 2: changes one -/
def cls : Op → Nat
  | .move _ => 0
  | .assign _ => 0
  | .pick _ _ _ => 0
  | .build _ _ => 0
  | .nilCheck _ => 0
  | .binOp _ _ _ _ _ => 0
  | .unOp _ _ _ => 0
  | .convert _ _ _ => 0
  | .slice _ _ _ _ _ => 0
  | .fieldAddr _ _ _ => 0
  | .field _ _ _ => 0
  | .index _ _ _ => 0
  | .extract _ _ => 0
  | .alloc _ => 1
  | .box _ _ => 1
  | .load _ _ => 1
  | .makeSlice _ _ _ => 1
  | .indexAddr _ _ _ => 1
  | .buildSlice _ _ ps => if ps.size = 0 then 1 else 2
  | .call ⟨.builtin .len, _, _⟩ => 1
  | .call ⟨.builtin .max, _, _⟩ => 0
  | .call ⟨.builtin .min, _, _⟩ => 0
  | .call ⟨.value (.func _), _, _⟩ => 1
  | _ => 2
section
variable {P : Program} {W : World} {U : Nat → Prop} {key : Nat} {st st' : St} {w w' : World} {a : Act} {tt : Nat → Option TI} {S : Ctx} {Q : Exit → Act → World → Prop}
def opRS (tt : Nat → Option TI) (S : Ctx) (key : Nat) (o : Oper) (st : St) (v : SV) (u : List (Nat × Ob)) : Prop :=
  match goCall o.op with
  | some c => ∃ l res, svArgs st (evs tt st c.2.1 c.2.2) = some l ∧ S c.1 l res ∧ (bindRs key res).2.2 ≤ key + 16 ∧ v = resSV (bindRs key res).1 ∧ u = (bindRs key res).2.1
  | none => opE tt key o st = some (v, u)
def opR (tt : Nat → Option TI) (S : Ctx) (all : List Oper) (key : Nat) (o : Oper) (st : St) (v : SV) (u : List (Nat × Ob)) : Prop :=
  match gslot all o with
  | none => opRS tt S key o st v u
  | some (none, _) => v = .und ∧ u = []
  | some (some t, want) => gK (st.sl t) want (opRS tt S key o st v u) (v = .und ∧ u = [])
theorem opS_iff {o : Oper} {K : St → Prop} : opS tt S key o K st ↔ ∃ v u, opRS tt S key o st v u ∧ K ((st.put o.dst v).app u) := by
  cases hc : goCall o.op with
  | some c =>
    simp only [opS, opRS, hc]
    constructor
    · intro h
      unfold optK at h
      split at h
      · rename_i l hl
        obtain ⟨res, h1, h2, h3⟩ := h
        exact ⟨_, _, ⟨l, res, hl, h1, h2, rfl, rfl⟩, h3⟩
      · exact h.elim
    · rintro ⟨v, u, ⟨l, res, hl, h1, h2, rfl, rfl⟩, h3⟩
      rw [hl]
      exact ⟨res, h1, h2, h3⟩
  | none =>
    simp only [opS, opRS, hc]
    constructor
    · intro h
      unfold optK at h
      split at h
      · rename_i r hr
        exact ⟨r.1, r.2, hr, h⟩
      · exact h.elim
    · rintro ⟨v, u, h1, h2⟩
      rw [h1]
      exact h2
theorem opG_iff {all : List Oper} {o : Oper} {K : St → Prop} : opG tt S all key o K st ↔ ∃ v u, opR tt S all key o st v u ∧ K ((st.put o.dst v).app u) := by
  have skip : K (st.put o.dst .und) ↔ ∃ v u, (v = SV.und ∧ u = []) ∧ K ((st.put o.dst v).app u) := by
    constructor
    · intro h; exact ⟨.und, [], ⟨rfl, rfl⟩, h⟩
    · rintro ⟨v, u, ⟨rfl, rfl⟩, h⟩; exact h
  cases hg : gslot all o with
  | none => simp only [opG, opR, hg]; exact opS_iff
  | some q =>
    obtain ⟨q, want⟩ := q
    cases q with
    | none => simp only [opG, opR, hg]; exact skip
    | some t =>
      simp only [opG, opR, hg, gK]
      by_cases h1 : isBool (st.sl t) = true
      · by_cases h2 : (getBool (st.sl t) == want) = true
        · simp only [h1, h2, if_true]; exact opS_iff
        · simp only [h1, h2, if_true, if_false]; exact skip
      · by_cases h2 : isUnd (st.sl t) = true
        · simp only [h1, h2, if_true, if_false]; exact skip
        · simp only [h1, h2, if_false]; simp
theorem evs_same {ts : List TypeId} {xs : List Operand} (h : ∀ x ∈ xs, ∀ t, st.ev tt t x = st'.ev tt t x) : evs tt st ts xs = evs tt st' ts xs := by
  unfold evs
  refine List.map_congr_left fun p hp => h p.2 ?_ p.1
  rw [← zipT_snd ts xs]
  exact List.mem_map.2 ⟨p, hp, rfl⟩
theorem avArgs_same (hob : ∀ k, U k → st.ob k = st'.ob k) : ∀ {xs : List AV}, avsU U xs → avArgs st xs = avArgs st' xs
  | [], _ => rfl
  | x :: r, h => by
    have hx : avArg st x = avArg st' x := by
      cases x with
      | row k => simp only [avArg, hob k (h (.row k) (by simp))]
      | _ => rfl
    have hr := avArgs_same hob (xs := r) (fun y m => h y (by simp [m]))
    simp only [avArgs, hx, hr]
theorem svArgs_same (hob : ∀ k, U k → st.ob k = st'.ob k) : ∀ {xs : List SV}, (∀ x ∈ xs, svU U x) → svArgs st xs = svArgs st' xs
  | [], _ => rfl
  | x :: r, h => by
    have hx : svArg st x = svArg st' x := by
      cases x with
      | p ag cs => simp only [svArg, avArgs_same hob (h (.p ag cs) (by simp))]
      | _ => rfl
    have hr := svArgs_same hob (xs := r) (fun y m => h y (by simp [m]))
    simp only [svArgs, hx, hr]
theorem loadV_same (hob : ∀ k, U k → st.ob k = st'.ob k) {t : Option TI} {x : SV} (hx : svU U x) : loadV st t x = loadV st' t x := by
  cases x with
  | bp k off => simp only [loadV, hob k hx]
  | rp k m i off => simp only [loadV, hob k hx]
  | _ => rfl
theorem lenV_same (hob : ∀ k, U k → st.ob k = st'.ob k) {t : Option TI} {x : SV} (hx : svU U x) : lenV st t x = lenV st' t x := by
  unfold lenV
  split <;> try rfl
  rename_i k
  rw [hob k (hx (.row k) (by simp))]
theorem idxAddr_same (hob : ∀ k, U k → st.ob k = st'.ob k) {m : Nat} {x i : SV} (hx : svU U x) : idxAddr st m x i = idxAddr st' m x i := by
  unfold idxAddr
  split <;> try rfl
  rename_i k _ _
  rw [hob k (hx (.row k) (by simp))]
/-- other slots -/
theorem opE_slots {o : Oper} {sl sl' : Nat → SV} {ob : Nat → Ob} {n n' : Nat} (hl : ∀ x ∈ o.op.operands, ∀ t, St.ev tt ⟨sl, ob, n⟩ t x = St.ev tt ⟨sl', ob, n'⟩ t x) : opE tt key o ⟨sl, ob, n⟩ = opE tt key o ⟨sl', ob, n'⟩ := by
  obtain ⟨dst, op, ty, pos, af, gd⟩ := o
  cases op with
  | build t parts =>
    have hp : ∀ fs z, parts.toList.map (partS tt ⟨sl, ob, n⟩ fs z) = parts.toList.map (partS tt ⟨sl', ob, n'⟩ fs z) := fun fs z => List.map_congr_left fun p hp => by
      have := hl p.2 (by simp [Op.operands]; exact ⟨p.1, by simpa using hp⟩) 0
      unfold partS
      split
      · rfl
      · rw [this]
    simp only [opE, hp]
  | buildSlice t len parts =>
    have hp : ∀ e, (parts.toList.map fun p => St.ev tt ⟨sl, ob, n⟩ e p.2) = parts.toList.map fun p => St.ev tt ⟨sl', ob, n'⟩ e p.2 := fun e => List.map_congr_left fun p hp => hl p.2 (by simp [Op.operands]; exact ⟨p.1, by simpa using hp⟩) e
    have he : ∀ m l, elemsS ⟨sl, ob, n⟩ m l = elemsS ⟨sl', ob, n'⟩ m l := fun m l => by
      have h1 : ∀ x, avT ⟨sl, ob, n⟩ x = avT ⟨sl', ob, n'⟩ x := fun x => by cases x <;> rfl
      have h2 : ∀ xs, avTs ⟨sl, ob, n⟩ xs = avTs ⟨sl', ob, n'⟩ xs := fun xs => by
        induction xs with
        | nil => rfl
        | cons x xs ih => simp only [avTs, h1, ih]
      induction l with
      | nil => rfl
      | cons x xs ih => cases x <;> simp only [elemsS, h2, ih]
    simp only [opE, hp, he]
  | slice t x lo hi mx =>
    simp only [Op.operands] at hl
    cases mx with
    | some _ => rfl
    | none =>
      have hx := fun t => hl x (by simp) t
      cases lo with
      | none => cases hi with
        | none => simp only [opE, hx, Option.map_none]
        | some h => have hh := fun t => hl h (by simp) t; simp only [opE, hx, hh, Option.map_none, Option.map_some]
      | some l =>
        have hlo := fun t => hl l (by simp) t
        cases hi with
        | none => simp only [opE, hx, hlo, Option.map_none, Option.map_some]
        | some h => have hh := fun t => hl h (by simp) t; simp only [opE, hx, hlo, hh, Option.map_some]
  | call c =>
    obtain ⟨callee, args, ts⟩ := c
    cases callee with
    | builtin b =>
      have := evs_same (tt := tt) (st := ⟨sl, ob, n⟩) (st' := ⟨sl', ob, n'⟩) (ts := ts.toList) (xs := args.toList) (fun x m t => hl x (by simp [Op.operands, Call.operands]; simpa using m) t)
      simp only [opE, this]
      unfold bltV
      split <;> rfl
    | value f => rfl
    | invoke r m => rfl
  | move x => have := fun t => hl x (by simp [Op.operands]) t; simp only [opE, this]
  | assign x => have := fun t => hl x (by simp [Op.operands]) t; simp only [opE, this]
  | pick c x y => have h1 := fun t => hl c (by simp [Op.operands]) t; have h2 := fun t => hl x (by simp [Op.operands]) t; have h3 := fun t => hl y (by simp [Op.operands]) t; simp only [opE, h1, h2, h3]
  | alloc t => rfl
  | box t x => have := fun t => hl x (by simp [Op.operands]) t; simp only [opE, this]
  | load t x => have := fun t => hl x (by simp [Op.operands]) t; simp only [opE, this]; rfl
  | store t x v => have h1 := fun t => hl x (by simp [Op.operands]) t; have h2 := fun t => hl v (by simp [Op.operands]) t; simp only [opE, h1, h2]; rfl
  | nilCheck x => have := fun t => hl x (by simp [Op.operands]) t; simp only [opE, this]
  | binOp op t x y t' => have h1 := fun t => hl x (by simp [Op.operands]) t; have h2 := fun t => hl y (by simp [Op.operands]) t; simp only [opE, h1, h2]
  | unOp op t x => have := fun t => hl x (by simp [Op.operands]) t; simp only [opE, this]
  | convert s t x => have := fun t => hl x (by simp [Op.operands]) t; simp only [opE, this]
  | makeSlice t x y => have h1 := fun t => hl x (by simp [Op.operands]) t; have h2 := fun t => hl y (by simp [Op.operands]) t; simp only [opE, h1, h2]
  | fieldAddr t x f => have := fun t => hl x (by simp [Op.operands]) t; simp only [opE, this]
  | field t x f => have := fun t => hl x (by simp [Op.operands]) t; simp only [opE, this]
  | indexAddr t x y => have h1 := fun t => hl x (by simp [Op.operands]) t; have h2 := fun t => hl y (by simp [Op.operands]) t; simp only [opE, h1, h2]; rfl
  | index t x y => have h1 := fun t => hl x (by simp [Op.operands]) t; have h2 := fun t => hl y (by simp [Op.operands]) t; simp only [opE, h1, h2]
  | extract x i => have := fun t => hl x (by simp [Op.operands]) t; simp only [opE, this]
  | _ => rfl
theorem ev_ob (sl : Nat → SV) (ob ob' : Nat → Ob) (n n' t : Nat) (x : Operand) : St.ev tt ⟨sl, ob, n⟩ t x = St.ev tt ⟨sl, ob', n'⟩ t x := by cases x <;> rfl
/-- other rows and boxes -/
theorem opE_obs {o : Oper} {sl : Nat → SV} {ob ob' : Nat → Ob} {n n' : Nat} (h : cls o.op = 0 ∨ (cls o.op ≤ 1 ∧ (∀ k, U k → ob k = ob' k) ∧ ∀ t x, svU U (St.ev tt ⟨sl, ob, n⟩ t x))) : opE tt key o ⟨sl, ob, n⟩ = opE tt key o ⟨sl, ob', n'⟩ := by
  have he := fun t x => ev_ob (tt := tt) sl ob ob' n n' t x
  have hle : cls o.op ≤ 1 := by rcases h with h | h <;> omega
  have hor : cls o.op = 0 ∨ ((∀ k, U k → ob k = ob' k) ∧ ∀ t x, svU U (St.ev tt ⟨sl, ob', n'⟩ t x)) := h.imp id fun h => ⟨h.2.1, fun t x => he t x ▸ h.2.2 t x⟩
  obtain ⟨dst, op, ty, pos, af, gd⟩ := o
  cases op with
  | build t parts =>
    have hp : ∀ fs z, parts.toList.map (partS tt ⟨sl, ob, n⟩ fs z) = parts.toList.map (partS tt ⟨sl, ob', n'⟩ fs z) := fun fs z => List.map_congr_left fun p hp => by
      unfold partS
      split
      · rfl
      · rw [he]
    simp only [opE, hp]
  | buildSlice t len parts =>
    by_cases hp : parts.size = 0
    · have : parts = #[] := by simpa using hp
      subst this
      rfl
    · simp [cls, hp] at hle
  | load t x =>
    obtain ⟨h1, h2⟩ := hor.resolve_left (by simp [cls])
    simp only [opE, he]
    rw [loadV_same (U := U) (st := ⟨sl, ob, n⟩) (st' := ⟨sl, ob', n'⟩) h1 (h2 0 x)]
  | indexAddr t x y =>
    obtain ⟨h1, h2⟩ := hor.resolve_left (by simp [cls])
    simp only [opE, he]
    split
    · rw [idxAddr_same (U := U) (st := ⟨sl, ob, n⟩) (st' := ⟨sl, ob', n'⟩) h1 (h2 0 x)]
    · rfl
  | call c =>
    obtain ⟨callee, args, ts⟩ := c
    cases callee with
    | builtin b =>
      have hev : evs tt ⟨sl, ob, n⟩ ts.toList args.toList = evs tt ⟨sl, ob', n'⟩ ts.toList args.toList := evs_same fun x _ t => he t x
      simp only [opE, hev]
      unfold bltV
      split
      · rename_i t _ v he1 he2
        obtain ⟨h1, h2⟩ := hor.resolve_left (by simp [cls])
        have hu : svU U v := by
          have hm : v ∈ evs tt ⟨sl, ob', n'⟩ ts.toList args.toList := by simp [he2]
          obtain ⟨p, _, rfl⟩ := List.mem_map.1 hm
          exact h2 _ _
        rw [lenV_same (U := U) (st := ⟨sl, ob, n⟩) (st' := ⟨sl, ob', n'⟩) h1 hu]
      · simp [cls] at hle
      · rfl
      · rfl
      · rfl
    | value f => rfl
    | invoke r m => rfl
  | store t x v => simp [cls] at hle
  | slice t x lo hi mx =>
    cases mx with
    | some _ => rfl
    | none => cases lo <;> cases hi <;> simp only [opE, he, Option.map_none, Option.map_some]
  | _ => first | rfl | simp only [opE, he]
theorem bindCs_keys : ∀ (cts : List CT) (key : Nat), key ≤ (bindCs key cts).2.2 ∧ ∀ p ∈ (bindCs key cts).2.1, key ≤ p.1 ∧ p.1 < (bindCs key cts).2.2
  | [], key => by simp [bindCs]
  | ct :: r, key => by
    cases ct with
    | sl e m xs =>
      obtain ⟨h1, h2⟩ := bindCs_keys r (key + 1)
      refine ⟨by simp only [bindCs]; omega, fun p hp => ?_⟩
      simp only [bindCs, List.mem_cons] at hp ⊢
      rcases hp with rfl | hp
      · exact ⟨Nat.le_refl _, by simp only; omega⟩
      · have := h2 p hp; omega
    | int k n => exact bindCs_keys r key
    | bool b => exact bindCs_keys r key
    | str s => exact bindCs_keys r key
theorem bindRs_keys : ∀ (res : List (Bool × List CT)) (key : Nat), key ≤ (bindRs key res).2.2 ∧ ∀ p ∈ (bindRs key res).2.1, key ≤ p.1 ∧ p.1 < (bindRs key res).2.2
  | [], key => by simp [bindRs]
  | x :: r, key => by
    obtain ⟨h1, h2⟩ := bindCs_keys x.2 key
    obtain ⟨h3, h4⟩ := bindRs_keys r (bindCs key x.2).2.2
    refine ⟨by simp only [bindRs]; omega, fun p hp => ?_⟩
    simp only [bindRs, List.mem_append] at hp ⊢
    rcases hp with hp | hp
    · have := h2 p hp; omega
    · have := h4 p hp; omega
theorem pure1_nil {v : Option SV} {r : SV × List (Nat × Ob)} (h : pure1 v = some r) : r.2 = [] := by
  obtain ⟨u, _, rfl⟩ := Option.map_eq_some_iff.1 h; rfl
theorem opE_keys {o : Oper} {r : SV × List (Nat × Ob)} (h : opE tt key o st = some r) : (cls o.op = 0 → r.2 = []) ∧ (cls o.op ≤ 1 → ∀ p ∈ r.2, key ≤ p.1 ∧ p.1 < key + 16) := by
  have nil : r.2 = [] → (cls o.op = 0 → r.2 = []) ∧ (cls o.op ≤ 1 → ∀ p ∈ r.2, key ≤ p.1 ∧ p.1 < key + 16) := fun e => ⟨fun _ => e, fun _ p hp => by simp [e] at hp⟩
  obtain ⟨dst, op, ty, pos, af, gd⟩ := o
  cases op with
  | move x => simp only [opE, Option.some.injEq] at h; exact nil (by rw [← h])
  | assign x => simp only [opE, Option.some.injEq] at h; exact nil (by rw [← h])
  | pick c x y =>
    simp only [opE] at h
    split at h
    · simp only [Option.some.injEq] at h; exact nil (by rw [← h])
    · simp at h
  | alloc t =>
    simp only [opE] at h
    obtain ⟨z, _, rfl⟩ := Option.map_eq_some_iff.1 h
    exact ⟨fun e => by simp [cls] at e, fun _ p hp => by simp at hp; subst hp; simp⟩
  | box t x =>
    simp only [opE] at h
    split at h
    · simp only [Option.some.injEq] at h
      subst h
      exact ⟨fun e => by simp [cls] at e, fun _ p hp => by simp at hp; subst hp; simp⟩
    · simp at h
  | build t parts =>
    simp only [opE] at h
    split at h
    · obtain ⟨cs, _, rfl⟩ := Option.map_eq_some_iff.1 h; exact nil rfl
    · simp at h
  | buildSlice t len parts =>
    simp only [opE] at h
    split at h
    · obtain ⟨⟨xs, ks, d⟩, h1, h⟩ := Option.bind_eq_some_iff.1 h
      split at h
      · simp only [Option.some.injEq] at h
        subst h
        refine ⟨fun e => by simp only [cls] at e; split at e <;> simp at e, fun e p hp => ?_⟩
        by_cases hs : parts.size = 0
        · have : parts = #[] := by simpa using hs
          subst this
          simp [elemsS] at h1
          obtain ⟨_, rfl, _⟩ := h1
          simp [goneAll] at hp; subst hp; simp
        · simp [cls, hs] at e
      · simp at h
    · simp at h
  | load t x => exact nil (pure1_nil h)
  | store t x v => exact ⟨fun e => by simp [cls] at e, fun e => by simp [cls] at e⟩
  | nilCheck x =>
    simp only [opE] at h
    split at h <;> simp only [Option.some.injEq, reduceCtorEq] at h <;> exact nil (by rw [← h])
  | binOp op t x y t' => exact nil (pure1_nil h)
  | unOp op t x => exact nil (pure1_nil h)
  | convert s t x => exact nil (pure1_nil h)
  | makeSlice t n c =>
    simp only [opE, makeV] at h
    split at h
    · split at h
      · obtain ⟨ze, _, h⟩ := Option.bind_eq_some_iff.1 h
        split at h
        · simp only [Option.some.injEq] at h
          subst h
          exact ⟨fun e => by simp [cls] at e, fun _ p hp => by simp at hp; subst hp; simp⟩
        · simp at h
      · simp at h
    · simp at h
  | slice t x lo hi mx =>
    cases mx with
    | some _ => simp [opE] at h
    | none => exact nil (pure1_nil h)
  | fieldAddr t x f =>
    simp only [opE] at h
    split at h
    · exact nil (pure1_nil h)
    · simp at h
  | field t x f =>
    simp only [opE] at h
    split at h
    · exact nil (pure1_nil h)
    · simp at h
  | indexAddr t x i =>
    simp only [opE] at h
    split at h
    · exact nil (pure1_nil h)
    · simp at h
  | index t x i => exact nil (pure1_nil h)
  | extract x i => exact nil (pure1_nil h)
  | call c =>
    obtain ⟨callee, args, ts⟩ := c
    cases callee with
    | builtin b =>
      simp only [opE, bltV] at h
      split at h
      · exact nil (pure1_nil h)
      · exact ⟨fun e => by simp [cls] at e, fun e => by simp [cls] at e⟩
      · exact nil (pure1_nil h)
      · exact nil (pure1_nil h)
      · simp at h
    | value f => simp [opE] at h
    | invoke r m => simp [opE] at h
  | _ => simp [opE] at h
theorem goCall_cls {o : Op} {c : FuncId × List TypeId × List Operand} (h : goCall o = some c) : cls o = 1 := by
  unfold goCall at h
  split at h
  · rfl
  · simp at h
theorem opR_keys {all : List Oper} {o : Oper} {v : SV} {u : List (Nat × Ob)} (h : opR tt S all key o st v u) : (cls o.op = 0 → u = []) ∧ (cls o.op ≤ 1 → ∀ p ∈ u, key ≤ p.1 ∧ p.1 < key + 16) := by
  have nil : u = [] → (cls o.op = 0 → u = []) ∧ (cls o.op ≤ 1 → ∀ p ∈ u, key ≤ p.1 ∧ p.1 < key + 16) := fun e => ⟨fun _ => e, fun _ p hp => by simp [e] at hp⟩
  have hRS : opRS tt S key o st v u → (cls o.op = 0 → u = []) ∧ (cls o.op ≤ 1 → ∀ p ∈ u, key ≤ p.1 ∧ p.1 < key + 16) := fun h => by
    unfold opRS at h
    split at h
    · rename_i c hc
      obtain ⟨l, res, _, _, h3, _, rfl⟩ := h
      refine ⟨fun e => by rw [goCall_cls hc] at e; simp at e, fun _ p hp => ?_⟩
      have := (bindRs_keys res key).2 p hp
      omega
    · exact opE_keys h
  unfold opR at h
  split at h
  · exact hRS h
  · exact nil h.2
  · unfold gK at h
    split at h
    · split at h
      · exact hRS h
      · exact nil h.2
    · split at h
      · exact nil h.2
      · exact h.elim
theorem opRS_same {o : Oper} {v : SV} {u : List (Nat × Ob)} (hl : ∀ x ∈ o.op.operands, ∀ t, st.ev tt t x = st'.ev tt t x)
    (hob : cls o.op = 0 ∨ st.ob = st'.ob ∨ (cls o.op ≤ 1 ∧ (∀ k, U k → st.ob k = st'.ob k) ∧ ∀ t x, svU U (st.ev tt t x))) : opRS tt S key o st v u ↔ opRS tt S key o st' v u := by
  cases hc : goCall o.op with
  | some c =>
    simp only [opRS, hc]
    have hop : ∃ args ts, o.op = .call ⟨.value (.func c.1), args, ts⟩ ∧ c.2.1 = ts.toList ∧ c.2.2 = args.toList := by
      unfold goCall at hc
      split at hc
      · rename_i f args ts he
        simp only [Option.some.injEq] at hc
        rw [← hc]
        exact ⟨args, ts, he, rfl, rfl⟩
      · simp at hc
    obtain ⟨args, ts, ho, e1, e2⟩ := hop
    have hev : evs tt st c.2.1 c.2.2 = evs tt st' c.2.1 c.2.2 := evs_same fun x m t => hl x (by rw [ho]; rw [e2] at m; simp [Op.operands, Call.operands]; exact .inr (by simpa using m)) t
    have hsv : svArgs st (evs tt st c.2.1 c.2.2) = svArgs st' (evs tt st' c.2.1 c.2.2) := by
      rw [← hev]
      rcases hob with hc0 | hob | ⟨_, hob, hu⟩
      · rw [goCall_cls hc] at hc0; simp at hc0
      · exact svArgs_same (U := fun _ => True) (st := st) (st' := st') (fun k _ => by rw [hob]) (fun x hx => by
          obtain ⟨p, _, rfl⟩ := List.mem_map.1 hx
          generalize st.ev tt p.1 p.2 = s
          cases s <;> first | trivial | (intro y my; cases y <;> trivial) | (intro y my z mz; cases z <;> trivial))
      · exact svArgs_same (U := U) hob (fun x hx => by
          obtain ⟨p, _, rfl⟩ := List.mem_map.1 hx
          exact hu _ _)
    rw [hsv]
  | none =>
    simp only [opRS, hc]
    have : opE tt key o st = opE tt key o st' := by
      obtain ⟨sl, ob, n⟩ := st
      obtain ⟨sl', ob', n'⟩ := st'
      have s1 : opE tt key o ⟨sl', ob', n'⟩ = opE tt key o ⟨sl, ob', n⟩ := opE_slots fun x m t => by
        rw [← hl x m t]; exact ev_ob _ _ _ _ _ _ _
      rw [s1]
      rcases hob with hc | hob | ⟨hc, hob, hu⟩
      · exact opE_obs (U := U) (.inl hc)
      · simp only at hob; subst hob; rfl
      · exact opE_obs (U := U) (.inr ⟨hc, hob, hu⟩)
    rw [this]
/-- a state that differs in a slot that is not looked at, and in rows and boxes that do not matter -/
theorem opR_same {ops : Array Oper} {o : Oper} {v : SV} {u : List (Nat × Ob)} (hl : ∀ s ∈ o.looksAt ops, st.sl s = st'.sl s)
    (hob : cls o.op = 0 ∨ st.ob = st'.ob ∨ (cls o.op ≤ 1 ∧ (∀ k, U k → st.ob k = st'.ob k) ∧ ∀ t x, svU U (st.ev tt t x))) : opR tt S ops.toList key o st v u ↔ opR tt S ops.toList key o st' v u := by
  have hl' : ∀ x ∈ o.op.operands, ∀ t, st.ev tt t x = st'.ev tt t x := fun x m t => by
    cases x with
    | tmp s => exact hl s (by
        unfold Oper.looksAt
        refine List.mem_append.2 (.inl (List.mem_filterMap.2 ⟨.tmp s, by simpa using m, rfl⟩)))
    | _ => rfl
  have h1 := opRS_same (S := S) (key := key) (v := v) (u := u) hl' hob
  unfold opR
  cases hg : gslot ops.toList o with
  | none => exact h1
  | some q =>
    obtain ⟨q, want⟩ := q
    cases q with
    | none => rfl
    | some t =>
      have ht : st.sl t = st'.sl t := hl t (by
        unfold gslot at hg
        split at hg
        · simp at hg
        · rename_i g hgd
          simp only [Option.some.injEq, Prod.mk.injEq] at hg
          unfold Oper.looksAt
          refine List.mem_append.2 (.inr ?_)
          rw [hgd]
          have : (ops[g.1]?).bind (·.dst) = some t := by simpa using hg.1
          simp [this])
      simp only [gK, ht, h1]
theorem ev_U (hU : StU U st) (t : Nat) (x : Operand) : svU U (st.ev tt t x) := by
  cases x with
  | tmp s => exact hU.sl s
  | const v =>
    show svU U (cvT (tt t) v)
    unfold cvT
    split
    · exact svU_c _
    · exact svU_c _
    · split
      · exact svU_c _
      · trivial
    · split
      · intro y m; simp at m; subst m; trivial
      · trivial
    · trivial
  | global _ => trivial
  | func _ => trivial
theorem updAll_out : ∀ {u : List (Nat × Ob)} {ob : Nat → Ob} {k : Nat}, (∀ p ∈ u, p.1 ≠ k) → updAll ob u k = ob k
  | [], _, _, _ => rfl
  | p :: r, ob, k, h => by
    rw [updAll, updAll_out fun q m => h q (by simp [m])]
    exact upd_ne _ _ fun e => h p (by simp) e.symm
theorem updAll_in : ∀ {u : List (Nat × Ob)} {ob ob' : Nat → Ob} {k : Nat}, (∃ p ∈ u, p.1 = k) → updAll ob u k = updAll ob' u k
  | [], _, _, _, h => by simp at h
  | p :: r, ob, ob', k, h => by
    rw [updAll, updAll]
    by_cases hr : ∃ q ∈ r, q.1 = k
    · exact updAll_in hr
    · have hn : ∀ q ∈ r, q.1 ≠ k := fun q m e => hr ⟨q, m, e⟩
      rw [updAll_out hn, updAll_out hn]
      obtain ⟨q, mq, e⟩ := h
      rcases List.mem_cons.1 mq with rfl | mq
      · rw [← e, upd_same, upd_same]
      · exact absurd e (hn q mq)
theorem updAll_comm {u1 u2 : List (Nat × Ob)} {ob : Nat → Ob} (h : ∀ p ∈ u1, ∀ q ∈ u2, p.1 ≠ q.1) : updAll (updAll ob u1) u2 = updAll (updAll ob u2) u1 := by
  funext k
  by_cases h1 : ∃ p ∈ u1, p.1 = k
  · obtain ⟨p, mp, rfl⟩ := h1
    rw [updAll_out fun q mq e => h p mp q mq e.symm]
    exact updAll_in ⟨p, mp, rfl⟩
  · have hn : ∀ q ∈ u1, q.1 ≠ k := fun q m e => h1 ⟨q, m, e⟩
    rw [updAll_out (ob := updAll ob u2) hn]
    by_cases h2 : ∃ p ∈ u2, p.1 = k
    · exact updAll_in h2
    · have hn2 : ∀ q ∈ u2, q.1 ≠ k := fun q m e => h2 ⟨q, m, e⟩
      rw [updAll_out hn2, updAll_out hn2, updAll_out hn]
theorem put_look (st : St) (d : Option Nat) (v : SV) (s : Nat) (h : ∀ t, d = some t → s ≠ t) : (st.put d v).sl s = st.sl s := by
  cases d with
  | none => rfl
  | some t => exact upd_ne _ _ (h t rfl)
theorem put_ob (st : St) (d : Option Nat) (v : SV) : (st.put d v).ob = st.ob := by cases d <;> rfl
theorem put_n (st : St) (d : Option Nat) (v : SV) : (st.put d v).n = st.n := by cases d <;> rfl
theorem put_comm' (st : St) (d e : Option Nat) (v u : SV) (h : ∀ t, d = some t → e ≠ some t) : ((st.put d v).put e u).sl = ((st.put e u).put d v).sl := by
  cases d with
  | none => rfl
  | some t => cases e with
    | none => rfl
    | some s =>
      have hne : t ≠ s := fun e => h t rfl (e ▸ rfl)
      funext k
      show upd (upd st.sl t v) s u k = upd (upd st.sl s u) t v k
      unfold upd
      by_cases h1 : k = s
      · by_cases h2 : k = t
        · exact absurd (h2.symm.trans h1) hne
        · have hst : ¬ s = t := fun e => hne e.symm
          simp [h1, hst]
      · simp [h1]
def clsOk (x y : Op) : Bool := cls x == 0 || cls y == 0 || (Nat.ble (cls x) 1 && Nat.ble (cls y) 1)
theorem comm {ops : Array Oper} {oi oj : Oper} {ki kj : Nat} {vi vj : SV} {ui uj : List (Nat × Ob)} (hap : oi.apart ops oj = true) (hc : clsOk oi.op oj.op = true) (hU : StU U st) (hki : ∀ k, ki ≤ k → k < ki + 16 → ¬ U k) (hkj : ∀ k, kj ≤ k → k < kj + 16 → ¬ U k) (hdis : ki + 16 ≤ kj ∨ kj + 16 ≤ ki)
    (h : opR tt S ops.toList ki oi st vi ui) (h' : opR tt S ops.toList kj oj ((st.put oi.dst vi).app ui) vj uj) :
    opR tt S ops.toList kj oj st vj uj ∧ opR tt S ops.toList ki oi ((st.put oj.dst vj).app uj) vi ui ∧ ((((st.put oi.dst vi).app ui).put oj.dst vj).app uj) = ((((st.put oj.dst vj).app uj).put oi.dst vi).app ui) := by
  obtain ⟨a1, a2, a3⟩ := Oper.apart_spec hap
  obtain ⟨i1, i2⟩ := opR_keys h
  obtain ⟨j1, j2⟩ := opR_keys h'
  have hcl : cls oi.op = 0 ∨ cls oj.op = 0 ∨ (cls oi.op ≤ 1 ∧ cls oj.op ≤ 1) := by
    unfold clsOk at hc
    simp only [Bool.or_eq_true, beq_iff_eq, Bool.and_eq_true] at hc
    rcases hc with (hc | hc) | hc
    · exact .inl hc
    · exact .inr (.inl hc)
    · exact .inr (.inr ⟨Nat.le_of_ble_eq_true hc.1, Nat.le_of_ble_eq_true hc.2⟩)
  have agree : ∀ {u : List (Nat × Ob)} {q : Nat}, (∀ p ∈ u, q ≤ p.1 ∧ p.1 < q + 16) → (∀ k, q ≤ k → k < q + 16 → ¬ U k) → ∀ k, U k → st.ob k = updAll st.ob u k := fun hu hq k hk => (updAll_out fun p mp e => hq p.1 (hu p mp).1 (hu p mp).2 (e ▸ hk)).symm
  have hA : opR tt S ops.toList kj oj st vj uj := by
    refine (opR_same (U := U) (st := st) (st' := (st.put oi.dst vi).app ui) (fun s ms => (put_look st oi.dst vi s fun t ht e => a1 t ht (e ▸ ms)).symm) ?_).2 h'
    show cls oj.op = 0 ∨ st.ob = updAll (st.put oi.dst vi).ob ui ∨ (cls oj.op ≤ 1 ∧ (∀ k, U k → st.ob k = updAll (st.put oi.dst vi).ob ui k) ∧ _)
    rw [put_ob]
    rcases hcl with hcl | hcl | ⟨c1, c2⟩
    · right; left; rw [i1 hcl]; rfl
    · left; exact hcl
    · right; right; exact ⟨c2, agree (i2 c1) hki, fun t x => ev_U hU t x⟩
  obtain ⟨j1', j2'⟩ := opR_keys hA
  refine ⟨hA, ?_, ?_⟩
  · refine (opR_same (U := U) (st := st) (st' := (st.put oj.dst vj).app uj) (fun s ms => (put_look st oj.dst vj s fun t ht e => a3 t ht (e ▸ ms)).symm) ?_).1 h
    show cls oi.op = 0 ∨ st.ob = updAll (st.put oj.dst vj).ob uj ∨ (cls oi.op ≤ 1 ∧ (∀ k, U k → st.ob k = updAll (st.put oj.dst vj).ob uj k) ∧ _)
    rw [put_ob]
    rcases hcl with hcl | hcl | ⟨c1, c2⟩
    · left; exact hcl
    · right; left; rw [j1' hcl]; rfl
    · right; right; exact ⟨c1, agree (j2' c2) hkj, fun t x => ev_U hU t x⟩
  · have hsl : ((((st.put oi.dst vi).app ui).put oj.dst vj).app uj).sl = ((((st.put oj.dst vj).app uj).put oi.dst vi).app ui).sl := by
      have e1 : ∀ (s : St) (u : List (Nat × Ob)) (d : Option Nat) (v : SV), ((s.app u).put d v).sl = (s.put d v).sl := fun s u d v => by cases d <;> rfl
      show (((st.put oi.dst vi).app ui).put oj.dst vj).sl = (((st.put oj.dst vj).app uj).put oi.dst vi).sl
      rw [e1, e1]
      exact put_comm' st _ _ _ _ fun t ht => a2 t ht
    have hobs : ((((st.put oi.dst vi).app ui).put oj.dst vj).app uj).ob = ((((st.put oj.dst vj).app uj).put oi.dst vi).app ui).ob := by
      show updAll (((st.put oi.dst vi).app ui).put oj.dst vj).ob uj = updAll (((st.put oj.dst vj).app uj).put oi.dst vi).ob ui
      rw [put_ob, put_ob]
      show updAll (updAll (st.put oi.dst vi).ob ui) uj = updAll (updAll (st.put oj.dst vj).ob uj) ui
      rw [put_ob, put_ob]
      rcases hcl with hcl | hcl | ⟨c1, c2⟩
      · rw [i1 hcl]; rfl
      · rw [j1' hcl]; rfl
      · refine updAll_comm fun p mp q mq e => ?_
        have := i2 c1 p mp
        have := j2' c2 q mq
        omega
    have hn : ((((st.put oi.dst vi).app ui).put oj.dst vj).app uj).n = ((((st.put oj.dst vj).app uj).put oi.dst vi).app ui).n := by
      show (((st.put oi.dst vi).app ui).put oj.dst vj).n = (((st.put oj.dst vj).app uj).put oi.dst vi).n
      rw [put_n, put_n]
      show (st.put oi.dst vi).n = (st.put oj.dst vj).n
      rw [put_n, put_n]
    generalize ((((st.put oi.dst vi).app ui).put oj.dst vj).app uj) = s1 at hsl hobs hn ⊢
    generalize ((((st.put oj.dst vj).app uj).put oi.dst vi).app ui) = s2 at hsl hobs hn ⊢
    cases s1; cases s2
    simp only at hsl hobs hn
    subst hsl hobs hn
    rfl
end
end Go.Proofs.Ytfmplnebdldpdaa
