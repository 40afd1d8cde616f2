/- Keys that are used up and keys that come: the steps of memory. -/
import Derived.Test.YtfmplnebdldpdaaBOps4
namespace Go.Proofs.Ytfmplnebdldpdaa
open Go.RowKit
theorem upd_same {α : Type} (f : Nat → α) (k : Nat) (v : α) : upd f k v k = v := by simp [upd]
theorem upd_ne {α : Type} (f : Nat → α) {k j : Nat} (v : α) (h : j ≠ k) : upd f k v j = f j := by simp [upd, h]
theorem updAll_append (ob : Nat → Ob) (u v : List (Nat × Ob)) : updAll ob (u ++ v) = updAll (updAll ob u) v := by
  induction u generalizing ob with
  | nil => rfl
  | cons p r ih => exact ih _
theorem updAll_gone : ∀ (ks : List Nat) (ob : Nat → Ob) (k : Nat), updAll ob (goneAll ks) k = if k ∈ ks then .gone else ob k
  | [], ob, k => by simp [goneAll, updAll]
  | x :: ks, ob, k => by
    have : goneAll (x :: ks) = (x, Ob.gone) :: goneAll ks := rfl
    rw [this, updAll, updAll_gone ks]
    by_cases h1 : k ∈ ks
    · simp [h1]
    · by_cases h2 : k = x
      · subst h2; simp [upd]
      · simp [h1, h2, upd]
theorem updAll_turn (ks : List Nat) (ob : Nat → Ob) (key : Nat) (o : Ob) (k : Nat) : updAll ob (goneAll ks ++ [(key, o)]) k = if k = key then o else if k ∈ ks then .gone else ob k := by
  rw [updAll_append]
  simp only [updAll, upd, updAll_gone]
def Gh.turn (g : Gh) (ks : List Nat) (key : Nat) (v : Value) (O D : List Nat) : Gh :=
  ⟨upd g.val key v, fun k => if k = key then O else if k ∈ ks then [] else g.O k, fun k => if k = key then D else if k ∈ ks then [] else g.D k⟩
section
variable {P : Program} {W : World} {U : Nat → Prop} {key : Nat} {st : St} {g : Gh} {w w' : World} {a : Act} {tt : Nat → Option TI}
theorem turn_own {ks : List Nat} {v : Value} {O D : List Nat} {b : Nat} (h : (g.turn ks key v O D).own b) : b ∈ O ∨ ∃ k, k ∉ ks ∧ k ≠ key ∧ b ∈ g.O k := by
  obtain ⟨k, hk⟩ := h
  simp only [Gh.turn] at hk
  split at hk
  · exact .inl hk
  · rename_i h1
    split at hk
    · simp at hk
    · rename_i h2; exact .inr ⟨k, h2, h1, hk⟩
theorem HI.turn {ob : Nat → Ob} (h : HI W g ob w) (hobU : ∀ k, obU U (ob k)) (hkey : ¬ U key) (ks : List Nat) (hks : ∀ k ∈ ks, U k)
    (hbel : Below W.heap.size W w') (hsz : w.heap.size ≤ w'.heap.size) (hw : ∀ b, b < w.heap.size → (∀ k ∈ ks, b ∉ g.O k) → w'.heap[b]? = w.heap[b]?)
    {v : Value} {O D : List Nat} {o : Ob} (hO : ∀ b ∈ O, (∃ k ∈ ks, b ∈ g.O k) ∨ w.heap.size ≤ b) (hD : ∀ b ∈ D, (∃ k ∈ ks, b ∈ g.O k ++ g.D k) ∨ w.heap.size ≤ b)
    (hnd : (O ++ D).Nodup) (hpl : ∀ b ∈ O ++ D, W.heap.size ≤ b ∧ ∃ cur e, w'.heap[b]? = some (.cells cur e (0, 0)))
    (hob : (∀ b, (g.turn ks key v O D).own b → g.own b ∨ w.heap.size ≤ b) → ObR (g.turn ks key v O D) w' W.heap.size key o) :
    HI W (g.turn ks key v O D) (updAll ob (goneAll ks ++ [(key, o)])) w' ∧ ∀ x u, svU U x → SVR g w x u → SVR (g.turn ks key v O D) w' x u := by
  have hkk : key ∉ ks := fun m => hkey (hks key m)
  have hval : ∀ k, U k → (g.turn ks key v O D).val k = g.val k := fun k hk => upd_ne _ _ fun e => hkey (e ▸ hk)
  have hown : ∀ b, (g.turn ks key v O D).own b → g.own b ∨ w.heap.size ≤ b := fun b hb => by
    rcases turn_own hb with m | ⟨k, _, _, m⟩
    · rcases hO b m with ⟨k, _, m⟩ | m
      · exact .inl ⟨k, m⟩
      · exact .inr m
    · exact .inl ⟨k, m⟩
  have hFnew : ∀ b ∈ O ++ D, (∃ k ∈ ks, b ∈ g.O k ++ g.D k) ∨ w.heap.size ≤ b := fun b m => by
    rcases List.mem_append.1 m with m | m
    · exact (hO b m).imp (fun ⟨k, h1, h2⟩ => ⟨k, h1, by simp [h2]⟩) id
    · exact hD b m
  refine ⟨h.step (fun k => k = key ∨ k ∈ ks) hbel (fun b hb hn => hw b hb fun k hk => hn k (.inr hk)) (fun k hk => ?_) hobU hval hown (fun k hk => ?_), fun x u hx hu => hu.move hx hval (fun b hb hn => hw b hb fun k _ m => hn ⟨k, m⟩) hown hsz⟩
  · have h1 : k ≠ key := fun e => hk (.inl e)
    have h2 : k ∉ ks := fun e => hk (.inr e)
    rw [updAll_turn]
    simp [Gh.turn, h1, h2, upd]
  · rw [updAll_turn]
    by_cases h1 : k = key
    · subst h1
      have eO : (g.turn ks k v O D).O k = O := by simp [Gh.turn]
      have eD : (g.turn ks k v O D).D k = D := by simp [Gh.turn]
      rw [if_pos rfl, eO, eD]
      refine ⟨hob hown, hnd, hpl, fun j hj b m mj => ?_⟩
      have hjk : ¬ j = k := fun e => hj e.symm
      by_cases h2 : j ∈ ks
      · simp [Gh.turn, hjk, h2] at mj
      · have mj' : b ∈ g.O j ++ g.D j := by simpa [Gh.turn, hjk, h2] using mj
        rcases hFnew b m with ⟨q, q1, q2⟩ | q
        · exact h.apart q j (fun e => h2 (e ▸ q1)) b q2 mj'
        · have := h.lt j b mj'; omega
    · have h2 : k ∈ ks := hk.resolve_left h1
      have eO : (g.turn ks key v O D).O k = [] := by simp [Gh.turn, h1, h2]
      have eD : (g.turn ks key v O D).D k = [] := by simp [Gh.turn, h1, h2]
      rw [if_neg h1, if_pos h2, eO, eD]
      exact ⟨⟨eO, eD⟩, by simp, by simp, by simp⟩
theorem wf_turn (hU : StU U st) (ks : List Nat) {o : Ob} (ho : obU (Uk U key) o) : (∀ k, obU (Uk U key) (updAll st.ob (goneAll ks ++ [(key, o)]) k)) ∧ ∀ k, ¬ Uk U key k → updAll st.ob (goneAll ks ++ [(key, o)]) k = .gone := by
  constructor
  · intro k
    rw [updAll_turn]
    split
    · exact ho
    · split
      · trivial
      · exact (hU.ob k).mono fun _ => .inl
  · intro k hk
    rw [updAll_turn, if_neg (fun e => hk (.inr (by omega)))]
    split
    · rfl
    · exact hU.gone k fun h => hk (.inl h)
theorem key_in : Uk U key key := .inr (by omega)
/-- a new box -/
theorem box_ok (hI : HI W g st.ob w) (hU : StU U st) (hkey : ¬ U key) {t : TypeId} {cs : List AV} {vs : List Value} (hr : All2 (AVR g w) cs vs) (hu : avsU U cs) {s : Sem Next}
    (hrun : s.run P w = .ok (.value (.pointer (some ⟨w.heap.size, 0, none⟩))) (w.alloc (.cells vs.toArray t))) : Fin P W U key st g w s (.bp key 0, [(key, .box t cs)]) := by
  have hb : Below w.heap.size w (w.alloc (.cells vs.toArray t)) := (Below.refl _ _).alloc (Nat.le_refl _) _
  obtain ⟨h1, h2⟩ := hI.turn (key := key) (U := U) (w' := w.alloc (.cells vs.toArray t)) (v := .pointer (some ⟨w.heap.size, 0, none⟩)) (O := [w.heap.size]) (D := []) (o := .box t cs) hU.ob hkey [] (by simp)
    (hI.below.alloc hI.below.size _) hb.size (fun b hb' _ => hb.block b hb') (by simp) (by simp) (by simp) (fun b m => by
      simp at m; subst m; exact ⟨hI.below.size, _, _, heap_alloc_new w _⟩) (fun hown => ⟨w.heap.size, vs, by simp [Gh.turn, upd], by simp [Gh.turn], by simp [Gh.turn], heap_alloc_new w _,
        AVRs.move hr hu (fun k hk => upd_ne _ _ fun e => hkey (e ▸ hk)) (fun b hb' _ => hb.block b hb') hown⟩)
  have hwf := wf_turn (key := key) (o := .box t cs) hU [] (avsU.mono (fun _ => .inl) hu)
  exact ⟨_, _, _, .inl hrun, h1, ⟨w.heap.size, by simp [Gh.turn, upd], rfl⟩, h2, key_in, hwf.1, hwf.2⟩
theorem setRow_ok (b : Nat) (cs cs' : Array Value) (t : TypeId) (hb : w.heap[b]? = some (.cells cs t (0, 0))) : (w.setRow b cs').heap[b]? = some (.cells cs' t (0, 0)) ∧ (∀ k, k ≠ b → (w.setRow b cs').heap[k]? = w.heap[k]?) ∧ (w.setRow b cs').heap.size = w.heap.size ∧ (w.setRow b cs').os = w.os ∧ (w.setRow b cs').tape = w.tape ∧ (w.setRow b cs').output = w.output := by
  refine ⟨setRow_heap w b cs cs' t _ hb, fun k hk => ?_, ?_, rfl, rfl, rfl⟩
  · have hbk : ¬ b = k := fun e => hk e.symm
    simp [World.setRow, Array.getElem?_modify, hbk]
  · simp [World.setRow]
/-- a store into a box -/
theorem store_bp (htt : ∀ t i, tt t = some i → TOk P t i) (hI : HI W g st.ob w) (hU : StU U st) {t k off tb : Nat} {cs vs : List AV} {va vv : Value} {ag : Bool} (hk : st.ob k = .box tb cs) (hl : vs.length = sizeTI (tt t)) (ho : off + vs.length ≤ cs.length)
    (ha : SVR g w (.bp k off) va) (hv : SVR g w (.p ag vs) vv) (hvu : avsU U vs) (hpos : 0 < vs.length) {s : Sem Next} (hs : s = (do Instr.storeAt t va vv; pure .skip)) : Fin P W U key st g w s (.und, [(k, .box tb (splice cs off vs))]) := by
  obtain ⟨b, h1, rfl⟩ := ha
  have hob := hI.obs k
  rw [hk] at hob
  obtain ⟨b', us, o1, o2, o3, o4, o5⟩ := hob
  have hb : b = b' := by rw [o1] at h1; simpa using h1.symm
  subst hb
  have hlen := o5.len
  obtain ⟨xs, c1, c2⟩ := PVR.cells hv
  have hxl := c2.len
  have hcu := hU.ob k
  rw [hk] at hcu
  obtain ⟨r1, r2, r3, r4, r5, r6⟩ := setRow_ok b us.toArray (splice us off xs).toArray tb o4
  have hsize : (sizeOf t).run P w = .ok xs.length w := by
    rw [← hxl, hl]
    unfold sizeTI at hl ⊢
    cases hti : tt t with
    | none => rw [hti] at hl; simp at hl; simp [hl] at hpos
    | some i =>
      cases i with
      | atom z => obtain ⟨d, zv, i, _, _, h3, _, h4, _⟩ := htt t _ hti; rw [run_size h3, h4]
      | strct fs n z => obtain ⟨_, i, _, _, h3, h4, _⟩ := htt t _ hti; rw [run_size h3, h4]
      | slice e m b z => obtain ⟨_, _, _, _, j, h3, h4, _⟩ := htt t _ hti; rw [run_size h3, h4]
  have hst := run_storeCells_at (P := P) b off tb xs 0 us.toArray w o4 (by simp; omega) (AVRs.one c2)
  have hrun : s.run P w = .ok .skip (w.setRow b (splice us off xs).toArray) := by
    subst hs
    have e : (us.toArray.toList.take (off + 0) ++ xs ++ us.toArray.toList.drop (off + 0 + xs.length)).toArray = (splice us off xs).toArray := by simp [splice]
    rw [e] at hst
    simp [Instr.storeAt, Instr.sureAddr, storeVar, c1, hsize, hst]
  have hmv : ∀ b', b' < w.heap.size → ¬ g.own b' → (w.setRow b (splice us off xs).toArray).heap[b']? = w.heap[b']? := fun b' _ hn => r2 b' fun e => hn ⟨k, by simp [o2, e]⟩
  have hbW : W.heap.size ≤ b := (hI.plain k b (by simp [o2])).1
  refine ⟨g, undef, _, .inr ⟨hrun, rfl⟩, ?_, rfl, fun x u hx hu => hu.move hx (fun _ _ => rfl) hmv (fun _ h => .inl h) (by omega), trivial, fun q => ?_, fun q hq => ?_⟩
  · refine hI.step (U := U) (fun q => q = k) ?_ (fun b' _ hn => r2 b' fun e => hn k rfl (by simp [o2, e])) (fun q hq => ⟨upd_ne _ _ hq, rfl, rfl, rfl⟩) hU.ob (fun _ _ => rfl) (fun _ h => .inl h) (fun q hq => ?_)
    · exact ⟨r4.trans hI.below.os, r5.trans hI.below.tape, r6.trans hI.below.output, by have := hI.below.size; omega, fun q hq => by rw [r2 q (by omega)]; exact hI.below.block q hq⟩
    · subst hq
      refine ⟨?_, hI.nodup q, fun b' m => ?_, hI.apart q⟩
      · simp only [updAll, upd_same]
        exact ⟨b, _, o1, o2, o3, r1, (AVRs.move o5 hcu (fun _ _ => rfl) hmv (fun _ h => .inl h)).splice (AVRs.move c2 hvu (fun _ _ => rfl) hmv (fun _ h => .inl h)) off⟩
      · simp [o2, o3] at m
        subst m
        exact ⟨hbW, _, _, r1⟩
  · simp only [updAll, upd]
    split
    · exact avsU.mono (fun _ => .inl) (avsU_splice hcu hvu off)
    · exact (hU.ob q).mono fun _ => .inl
  · simp only [updAll, upd]
    split
    · rename_i e; subst e
      exact absurd (hU.gone q fun h => hq (.inl h)) (by simp [hk])
    · exact hU.gone q fun h => hq (.inl h)
end
end Go.Proofs.Ytfmplnebdldpdaa
