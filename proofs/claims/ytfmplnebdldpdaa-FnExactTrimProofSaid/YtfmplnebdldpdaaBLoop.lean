/- Loops of the abstract machine, by a relation and a measure. -/
import Derived.Test.YtfmplnebdldpdaaBSimp
import Derived.IntWalk
namespace Go.Proofs.Ytfmplnebdldpdaa
open Go.RowKit
section
variable {tt : Nat → Option TI} {S : Ctx}
theorem optK_mono {α : Type} {r : Option α} {K K' : α → Prop} (h : ∀ x, K x → K' x) (hh : optK r K) : optK r K' := by
  cases r with
  | none => exact hh
  | some v => exact h v hh
theorem opS_mono {key : Nat} {o : Oper} {K K' : St → Prop} {st : St} (h : ∀ st, K st → K' st) (hh : opS tt S key o K st) : opS tt S key o K' st := by
  unfold opS at hh ⊢
  split
  · rename_i c hc
    rw [hc] at hh
    exact optK_mono (fun l ⟨res, h1, h2, h3⟩ => ⟨res, h1, h2, h _ h3⟩) hh
  · rename_i hc
    rw [hc] at hh
    exact optK_mono (fun r hr => h _ hr) hh
theorem opG_mono {all : List Oper} {key : Nat} {o : Oper} {K K' : St → Prop} {st : St} (h : ∀ st, K st → K' st) (hh : opG tt S all key o K st) : opG tt S all key o K' st := by
  unfold opG at hh ⊢
  split
  · rename_i hg; rw [hg] at hh; exact opS_mono h hh
  · rename_i hg; rw [hg] at hh; exact h _ hh
  · rename_i hg
    rw [hg] at hh
    simp only [gK] at hh ⊢
    split
    · rename_i h1
      rw [if_pos h1] at hh
      split
      · rename_i h2; rw [if_pos h2] at hh; exact opS_mono h hh
      · rename_i h2; rw [if_neg h2] at hh; exact h _ hh
    · rename_i h1
      rw [if_neg h1] at hh
      split
      · rename_i h2; rw [if_pos h2] at hh; exact h _ hh
      · rename_i h2; rw [if_neg h2] at hh; exact hh
theorem opsS_mono {all : List Oper} {K K' : St → Prop} (h : ∀ st, K st → K' st) : ∀ (r : List Oper) (key : Nat) (st : St), opsS tt S all key r K st → opsS tt S all key r K' st
  | [], _, st, hh => h st hh
  | o :: r, key, st, hh => opG_mono (fun st' h' => opsS_mono h r (key + 16) st' h') hh
theorem loopN_mono {F : (Ex → St → Prop) → St → Prop} (hF : ∀ Q Q' st, (∀ e st, Q e st → Q' e st) → F Q st → F Q' st) {Q Q' : Ex → St → Prop} (h : ∀ e st, Q e st → Q' e st) : ∀ (n : Nat) (st : St), loopN F Q n st → loopN F Q' n st
  | 0, _, hh => hh
  | n + 1, st, ⟨ms, ρ, h1, h2⟩ => ⟨ms, ρ, h1, hF _ _ _ (fun e st' h' => by cases e <;> first | exact loopN_mono hF h n st' h' | exact h _ _ h') h2⟩
theorem swp_mono : ∀ (c : Code) (Q Q' : Ex → St → Prop) (st : St), (∀ e st, Q e st → Q' e st) → swp tt S c Q st → swp tt S c Q' st
  | .skip, Q, Q', st, h, hh => h _ _ hh
  | .exit _, Q, Q', st, h, hh => h _ _ hh
  | .ret, Q, Q', st, h, hh => h _ _ hh
  | .region _ ops _, Q, Q', st, h, hh => opsS_mono (fun st' h' => h _ _ h') ops.toList st.n st hh
  | .seq a b, Q, Q', st, h, hh => swp_mono a _ _ st (fun e st' h' => by cases e <;> first | exact swp_mono b Q Q' st' h h' | exact h _ _ h') hh
  | .cond c a b, Q, Q', st, h, hh => by
    simp only [swp, condK] at hh ⊢
    split
    · rename_i h1
      rw [if_pos h1] at hh
      split
      · rename_i h2; rw [if_pos h2] at hh; exact swp_mono a Q Q' st h hh
      · rename_i h2; rw [if_neg h2] at hh; exact swp_mono b Q Q' st h hh
    · rename_i h1; rw [if_neg h1] at hh; exact hh
  | .block id b, Q, Q', st, h, hh => swp_mono b _ _ st (fun e st' h' => by
      cases e with
      | normal => exact h _ _ h'
      | ret => exact h _ _ h'
      | exit j =>
        simp only [blockK] at h' ⊢
        split
        · rename_i e; rw [if_pos e] at h'; exact h _ _ h'
        · rename_i e; rw [if_neg e] at h'; exact h _ _ h') hh
  | .loop b, Q, Q', st, h, ⟨n, hh⟩ => ⟨n, loopN_mono (fun Q Q' st hq hs => swp_mono b Q Q' st hq hs) h n st hh⟩
  | .rangeFunc _ _ _ _, _, _, _, _, hh => hh.elim
  | .scope _, _, _, _, _, hh => hh.elim
  | .label _, _, _, _, _, hh => hh.elim
  | .goto _, _, _, _, _, hh => hh.elim
  | .refuse _, _, _, _, _, hh => hh.elim
/-- back at a loop's head -/
def backK {α : Type} (I : α → St → Prop) (μ : α → Nat) (a : α) (st : St) : Prop := ∃ a' ms ρ, ρ.Nodup ∧ I a' ((st.mats ms).ren ρ) ∧ μ a' < μ a
theorem swp_loop {α : Type} {b : Code} {Q : Ex → St → Prop} {st : St} (I : α → St → Prop) (μ : α → Nat) (a : α) (ms : List (Bool × Nat × Nat)) (ρ : List Nat) (hρ : ρ.Nodup) (h0 : I a ((st.mats ms).ren ρ)) (step : ∀ a st, I a st → swp tt S b (thenK (backK I μ a) Q) st) : swp tt S (.loop b) Q st := by
  have key : ∀ n a st, μ a < n → (∃ ms ρ, ρ.Nodup ∧ I a ((st.mats ms).ren ρ)) → loopN (swp tt S b) Q n st := by
    intro n
    induction n with
    | zero => intro a st h; omega
    | succ n ih =>
      rintro a st hn ⟨ms, ρ, h1, h2⟩
      refine ⟨ms, ρ, h1, swp_mono b _ _ _ (fun e st' h' => ?_) (step a _ h2)⟩
      cases e with
      | normal =>
        obtain ⟨a', ms', ρ', h3, h4, h5⟩ := h'
        exact ih a' st' (by omega) ⟨ms', ρ', h3, h4⟩
      | exit _ => exact h'
      | ret => exact h'
  exact ⟨μ a + 1, key _ a st (by omega) ⟨ms, ρ, hρ, h0⟩⟩
end
theorem wrap_ok {x : Int} (h0 : -9223372036854775808 ≤ x) (h1 : x ≤ 9223372036854775807) : IntKind.i64.wrap x = x := IntWalk.i64_in _ ⟨h0, h1⟩
theorem ren_sl (sl : Nat → SV) (ob : Nat → Ob) (n : Nat) (ρ : List Nat) (t : Nat) : (St.ren ⟨sl, ob, n⟩ ρ).sl t = rSV ρ (sl t) := _root_.id rfl
theorem ren_ob (sl : Nat → SV) (ob : Nat → Ob) (n : Nat) (ρ : List Nat) (j : Nat) : (St.ren ⟨sl, ob, n⟩ ρ).ob j = match ρ[j]? with | some k => rOb ρ (ob k) | none => .gone := _root_.id rfl
theorem ren_n (st : St) (ρ : List Nat) : (st.ren ρ).n = ρ.length := _root_.id rfl
theorem mats_nil (st : St) : st.mats [] = st := _root_.id rfl
theorem mats_slot (sl : Nat → SV) (ob : Nat → Ob) (n t q : Nat) (r : List (Bool × Nat × Nat)) : St.mats ⟨sl, ob, n⟩ ((false, t, q) :: r) = St.mats (match sl t with | .p false [.nil e q] => if 0 < q then ⟨upd sl t (.p false [.row n]), upd ob n (.row e q [] true), n + 1⟩ else ⟨sl, ob, n⟩ | _ => ⟨sl, ob, n⟩) r := _root_.id rfl
theorem mats_box (sl : Nat → SV) (ob : Nat → Ob) (n k i : Nat) (r : List (Bool × Nat × Nat)) : St.mats ⟨sl, ob, n⟩ ((true, k, i) :: r) = St.mats (match ob k with | .box ty cs => (match cs[i]? with | some (.nil e q) => if 0 < q then ⟨sl, upd (upd ob k (.box ty (cs.set i (.row n)))) n (.row e q [] true), n + 1⟩ else ⟨sl, ob, n⟩ | _ => ⟨sl, ob, n⟩) | _ => ⟨sl, ob, n⟩) r := _root_.id rfl
theorem nn (k : Nat) : (0 ≤ (k : Int)) = True := by simp
theorem nle30 (k : Nat) : ((k : Int) ≤ 1073741824) = (k ≤ 1073741824) := propext (by omega)
theorem bb_tt : (true == true) = true := _root_.id rfl
theorem bb_ft : (false == true) = false := _root_.id rfl
theorem bb_tf : (true == false) = false := _root_.id rfl
theorem bb_ff : (false == false) = true := _root_.id rfl
attribute [go_sem] flatC flatCs Int.ofNat_lt Int.ofNat_le zCTs nle30 mats_nil mats_slot mats_box nn bb_tt bb_ft bb_tf bb_ff ren_sl ren_ob ren_n rSV rAV rOb kidx
end Go.Proofs.Ytfmplnebdldpdaa
