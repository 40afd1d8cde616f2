/- From the abstract machine's contracts to those that the exact laws use. -/
import Derived.Test.YtfmplnebdldpdaaBCall
import Derived.Test.YtfmplnebdldpdaaCodec
namespace Go.Proofs.Ytfmplnebdldpdaa
open Go.RowKit
/-- a codec and trees say the same -/
structure Enc {α : Type} (c : Codec α) (f : α → List CT) : Prop where
  to : ∀ {w : World} {cs : List Value} {x : α} {L : List Nat}, c.rep w cs x L → RCs w (f x) cs L
  of : ∀ {w : World} {cs : List Value} {x : α} {L : List Nat}, RCs w (f x) cs L → c.rep w cs x L
section
variable {α : Type} {c : Codec α} {f : α → List CT} {w : World}
theorem Enc.reps (h : Enc c f) : ∀ {ds : List α} {xs : List Value} {L : List Nat}, c.reps w xs ds L → REs w c.size (ds.map f) xs L
  | [], _, _, h1 => h1
  | _ :: _, _, _, ⟨c1, c2, L1, L2, h1, h2, h3, h4⟩ => ⟨c1, c2, L1, L2, h1, h2, ⟨h.to h3, c.len h3⟩, h.reps h4⟩
theorem Enc.reps_of (h : Enc c f) : ∀ {ds : List α} {xs : List Value} {L : List Nat}, REs w c.size (ds.map f) xs L → c.reps w xs ds L
  | [], _, _, h1 => h1
  | _ :: _, _, _, ⟨c1, c2, L1, L2, h1, h2, h3, h4⟩ => ⟨c1, c2, L1, L2, h1, h2, h.of h3.1, h.reps_of h4⟩
theorem Enc.sl (h : Enc c f) (e : Nat) {v : Value} {ds : List α} {L : List Nat} : (sliceC c).rep w [v] ds L ↔ RC w (.sl e c.size (ds.map f)) v L := by
  constructor
  · rintro ⟨A, cap, hv, h1, h2, xs, L0, L1, hL, h3, h4⟩
    obtain rfl : v = _ := by simpa using hv
    exact ⟨A, cap, xs, L0, L1, by simp, by simpa using h1, h2, hL, c.pos, by simpa using h3, h.reps h4⟩
  · rintro ⟨A, cap, xs, L0, L1, hv, h1, h2, hL, h0, h3, h4⟩
    exact ⟨A, cap, by simpa using hv, by simpa using h1, h2, xs, L0, L1, hL, by simpa using h3, h.reps_of h4⟩
theorem RCs.solo {x : CT} {v : Value} {L : List Nat} (h : RC w x v L) : RCs w [x] [v] L := ⟨v, [], L, [], rfl, by simp, h, rfl, rfl⟩
theorem RCs.more {x : CT} {v : Value} {L M : List Nat} {r : List CT} {cs : List Value} (h : RC w x v L) (k : RCs w r cs M) : RCs w (x :: r) (v :: cs) (L ++ M) := ⟨v, cs, L, M, rfl, rfl, h, k⟩
theorem Enc.slice (h : Enc c f) (e : Nat) : Enc (sliceC c) (fun l => [.sl e c.size (l.map f)]) where
  to := fun {w cs x L} hr => by
    obtain ⟨A, cap, rfl, h1⟩ := id hr
    exact RCs.solo ((h.sl e).1 hr)
  of := fun {w cs x L} hr => by
    obtain ⟨v, cs', L1, L2, rfl, rfl, h1, rfl, rfl⟩ := hr
    rw [List.append_nil]
    exact (h.sl e).2 h1
end
theorem encInt : Enc intC (fun n => [.int .i64 n]) where
  to := fun ⟨h1, h2⟩ => by subst h1; subst h2; exact RCs.solo ⟨rfl, rfl⟩
  of := fun ⟨v, cs', L1, L2, h1, h2, h3, h4, h5⟩ => by
    obtain ⟨rfl, rfl⟩ := h3
    subst h4; subst h5; exact ⟨h1, h2⟩
theorem encByte : Enc byteC (fun n => [.int .u8 n]) where
  to := fun ⟨h1, h2⟩ => by subst h1; subst h2; exact RCs.solo ⟨rfl, rfl⟩
  of := fun ⟨v, cs', L1, L2, h1, h2, h3, h4, h5⟩ => by
    obtain ⟨rfl, rfl⟩ := h3
    subst h4; subst h5; exact ⟨h1, h2⟩
theorem encBool : Enc boolC (fun b => [.bool b]) where
  to := fun ⟨h1, h2⟩ => by subst h1; subst h2; exact RCs.solo ⟨rfl, rfl⟩
  of := fun ⟨v, cs', L1, L2, h1, h2, h3, h4, h5⟩ => by
    obtain ⟨rfl, rfl⟩ := h3
    subst h4; subst h5; exact ⟨h1, h2⟩
theorem encStr : Enc strC (fun s => [.str s]) where
  to := fun ⟨h1, h2, h3⟩ => by subst h1; subst h2; exact RCs.solo ⟨rfl, rfl, h3⟩
  of := fun ⟨v, cs', L1, L2, h1, h2, h3, h4, h5⟩ => by
    obtain ⟨rfl, rfl, t⟩ := h3
    subst h4; subst h5; exact ⟨h1, h2, t⟩
/-- a slice as an argument -/
theorem arg_sl {α : Type} {c : Codec α} {f : α → List CT} (h : Enc c f) (e : Nat) {w : World} {v : Value} {ds : List α} {L : List Nat} (hr : (sliceC c).rep w [v] ds L) : ArgR w (false, [.sl e c.size (ds.map f)]) v := .inr ⟨rfl, _, L, rfl, (h.sl e).1 hr⟩
theorem arg_int (w : World) (n : Int) : ArgR w (false, [.int .i64 n]) (.int .i64 n) := .inr ⟨rfl, _, [], rfl, rfl, rfl⟩
theorem arg_bool (w : World) (b : Bool) : ArgR w (false, [.bool b]) (.bool b) := .inr ⟨rfl, _, [], rfl, rfl, rfl⟩
theorem arg_str (w : World) (s : ByteArray) (h : s.size ≤ 9223372036854775807) : ArgR w (false, [.str s]) (.string s) := .inr ⟨rfl, _, [], rfl, rfl, rfl, h⟩
theorem arg_agg {α : Type} {c : Codec α} {f : α → List CT} (h : Enc c f) {w : World} {vs : List Value} {x : α} {L : List Nat} (hr : c.rep w vs x L) : ArgR w (true, f x) (.agg vs.toArray) := .inl ⟨rfl, vs, L, rfl, h.to hr⟩
section
variable {w w' : World} {v : Value} {e : Ending}
theorem res_one {B : Nat} {x : Bool × List CT} (h : ResR w B [x] v) : ∃ F, OP w B x v F ∧ Own w B F := by
  obtain ⟨vs, F, ⟨u, vs', F1, F2, rfl, rfl, h1, rfl, rfl⟩, h2, rfl⟩ := h
  rw [List.append_nil] at h2
  exact ⟨F1, by simpa using h1, h2⟩
theorem res_sl {α : Type} {c : Codec α} {f : α → List CT} (h : Enc c f) {t : Nat} {ds : List α} (hr : ResR w' w.heap.size [(false, [.sl t c.size (ds.map f)])] v) (hb : Below w.heap.size w w') : AccC c t w v ds w' := by
  obtain ⟨F, h1, h2⟩ := res_one hr
  rcases h1 with ⟨h1, _⟩ | ⟨_, ct, h1, h3⟩
  · simp at h1
  · obtain rfl : _ = ct := by simpa using h1
    obtain ⟨_, cs, L, h4, h5, rfl⟩ := h3
    exact ⟨⟨cs, L, by simpa using h4, h.reps_of h5, h2⟩, hb⟩
theorem res_int {n : Int} {B : Nat} (hr : ResR w B [(false, [.int .i64 n])] v) : v = .int .i64 n := by
  obtain ⟨F, h1, h2⟩ := res_one hr
  rcases h1 with ⟨h1, _⟩ | ⟨_, ct, h1, h3⟩
  · simp at h1
  · obtain rfl : _ = ct := by simpa using h1
    exact h3.1.1
theorem res_bool {b : Bool} {B : Nat} (hr : ResR w B [(false, [.bool b])] v) : v = .bool b := by
  obtain ⟨F, h1, h2⟩ := res_one hr
  rcases h1 with ⟨h1, _⟩ | ⟨_, ct, h1, h3⟩
  · simp at h1
  · obtain rfl : _ = ct := by simpa using h1
    exact h3.1.1
theorem res_str {s : ByteArray} {B : Nat} (hr : ResR w B [(false, [.str s])] v) : v = .string s := by
  obtain ⟨F, h1, h2⟩ := res_one hr
  rcases h1 with ⟨h1, _⟩ | ⟨_, ct, h1, h3⟩
  · simp at h1
  · obtain rfl : _ = ct := by simpa using h1
    exact h3.1.1
end
section
variable {P : Program} {f : FuncId} {args res : List (Bool × List CT)}
theorem Sound.calls (h : Sound P f args res) {w : World} {vs : List Value} (ha : All2 (ArgR w) args vs) : Calls P f vs.toArray w fun e w' => ∃ v, e = .returned v ∧ ResR w' w.heap.size res v ∧ Below w.heap.size w w' := h.2 w vs ha
/-- a slice as the result -/
theorem Sound.givesS {α : Type} {c : Codec α} {g : α → List CT} {t : Nat} {ds : List α} (h : Sound P f args [(false, [.sl t c.size (ds.map g)])]) (hg : Enc c g) {w : World} {vs : List Value} (ha : All2 (ArgR w) args vs) : Calls P f vs.toArray w (GivesS c t w ds) :=
  (h.calls ha).mono fun _ _ ⟨v, h1, h2, h3⟩ => ⟨v, h1, res_sl hg h2 h3⟩
end
end Go.Proofs.Ytfmplnebdldpdaa
