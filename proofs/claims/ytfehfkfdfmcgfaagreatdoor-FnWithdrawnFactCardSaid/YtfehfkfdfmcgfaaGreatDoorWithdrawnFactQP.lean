/- The law's statement, proved: for every input the call returns true, and each argument reads as it did. Its row lists the library's tables and errors that start-up lays; the card ties them to the program's text. No other conditions. -/
import Derived.Test.YtfehfkfdfmcgfaaGreatDoorCards
import Derived.Test.YtfehfkfdfmcgfaaGreatDoorTie
import Derived.Test.YtfehfkfdfmcgfaaGreatDoorWithdrawnFactQ9
import Derived.WalkKit
import Derived.ProofKit
import Derived.LaidMore
import Derived.OpenShut
import Derived.ShutString
import Derived.ChangeOld
import Derived.Below
import Derived.Stop.Joined
import Derived.Stop.LaidErr
import Derived.LaidHandle
import Derived.MakeChecks
import Derived.SevenTiedAt
import Derived.Lib.LaidTab
namespace Go.Proofs.YtfehfkfdfmcgfaaGreatDoor.fnWithdrawnFact
open Go.ChangeShapes Go.WideShapes Go.ChangeAt Go.RowKit
open Go.ChangeMaps (open_string shut_string)
set_option linter.unusedVariables false

theorem own : ownKnob Tryz.prog.godebug = none := by kernel_rfl
theorem laidOut : laidOutB Tryz.prog = true := by kernel_rfl
theorem gPow : Tryz.prog.globalNamed "internal/strconv.uint64pow10" = some 3 := by kernel_rfl
theorem gPowType : (Tryz.prog.globals[3]?).map (·.type) = some 337 := by kernel_rfl
theorem cPow : Tryz.prog.cellsOf 337 = 20 := by kernel_rfl
theorem cU64 : Tryz.prog.cellsOf 285 = 1 := by kernel_rfl
theorem errStar : "*" ++ "errors.errorString" = "*errors.errorString" := by decide
theorem errRow (u : TypeId) (h : Tryz.prog.typeName? 3 u = some "*errors.errorString") : u = 328 :=
  typeName_ptr_named (nm := "errors.errorString") (by rw [errStar]; kernel_rfl) (by kernel_rfl) (by decide) u (by rw [errStar]; exact h)
theorem j0_of {W : World} (h : laidMetH Tryz.prog Rows.fnWithdrawnFactRow.laid W) : J0 W := by
  rw [MakeChecks.laidMetH_plain _ _ _ (by kernel_rfl)] at h
  have h1 := h.tail.tail
  have hp : Lib.TabIs Tryz.prog W "internal/strconv.uint64pow10" .u64 Lib.pow10Tab := Lib.tabIs_of_head (k := .u64) (zs := Lib.pow10Tab) gPow gPowType Tryz.underlying337 Tryz.underlying285 cU64 cPow h1
  have h2 := h1.tail.tail
  obtain ⟨a0, s0, hv0, -, -, -⟩ := laid_sentinel h2 (show Tryz.prog.globalNamed "strconv.ErrSyntax" = some 1 by kernel_rfl) (show (Tryz.prog.globals[1]?).map (·.type) = some 271 by kernel_rfl) Tryz.underlying271 errRow Tryz.underlying328 Tryz.underlying330 rfl rfl Tryz.underlying9 (show Tryz.prog.cellsOf 330 = 1 by kernel_rfl) (show Tryz.prog.cellsOf 9 = 1 by kernel_rfl)
  intro x mx
  simp only [ZxG, List.mem_cons, List.not_mem_nil, or_false] at mx
  rcases mx with rfl | rfl
  · exact ⟨_, hp, rfl⟩
  · exact ⟨_, hv0, _, _, rfl⟩
/-- The door's own heap meets the condition. -/
theorem door_met (os : Os) (args : Array Value) : laidMetH Tryz.prog Rows.fnWithdrawnFactRow.laid ((World.doorLaid Tryz.prog 400 os).forCall (fun _ _ => 0) ⟨#[], args, []⟩).memory :=
  laidMetH_of_parts3 (fuel := 8) (laidMet_of_run' 8 (by kernel_rfl) (by kernel_rfl)) (by kernel_rfl) (by kernel_rfl)

set_option maxRecDepth 100000 in
theorem lifted (os : Os) (started : os.Started) (H : Type) (enc : TypeId × Value → H) :
    ReturnsInHanded {} Tryz.checked os 9 .any (fun w args => (Rows.fnWithdrawnFactSpec.pre enc Tryz.prog Tryz.f9 [] false w args ∧ laidMetH Tryz.prog Rows.fnWithdrawnFactRow.laid w) ∧ sizedMet enc Tryz.prog Tryz.f9 (OpenSpec.ofChange Rows.fnWithdrawnFactSpec) false w args)
      (Rows.fnWithdrawnFactSpec.post enc Tryz.prog Tryz.f9 false true false false) := by
  refine returnsInHanded_of_change_and (C := Tryz.checked) (X := fun w _ => laidMetH Tryz.prog Rows.fnWithdrawnFactRow.laid w) (fun _ _ _ hh h => h.of_heap hh) own started (by kernel_rfl) Tryz.func9
    (ChangeSpec.witness_shaped (enc := enc) (C := Tryz.checked) (os := os) (X := fun w _ => laidMetH Tryz.prog Rows.fnWithdrawnFactRow.laid w) false (World.doorLaid Tryz.prog 400 os) #[.slice none 0 0] 8 rfl (World.shaped_of_RefB (by kernel_rfl) (by kernel_rfl)) (by kernel_rfl) (by kernel_rfl) (by kernel_rfl) (door_met os _)) ?_
  intro W base args ds gs before hval0 hW _ _ hL _
  have hJ := j0_of hL
  have hval : ∀ (j : Nat) t v, Tryz.f9.params[j]? = some t → args[j]? = some v → Value.okWide Tryz.prog W .any base t v := hval0
  have hW' := hW
  obtain ⟨p, q, hA0, hV, rfl, hfz, hnd⟩ := hW
  have hA : DataW.TrodAll enc Tryz.prog W 0 (fun _ => true) true Tryz.f9.params.toList args.toList ds p := hA0
  rw [Tryz.params9] at hA hval
  obtain ⟨v0, vs0, d0, ds0, p0, q0, hargs, rfl, rfl, h0, r0⟩ := trodAll_cons hA
  obtain ⟨rfl, rfl, rfl⟩ := trodAll_nil r0
  obtain rfl : args = #[v0] := by cases args; simp_all
  obtain ⟨rfl, rfl⟩ := trodVars_none hV
  have k0 := h0
  have lt0 : ∀ x ∈ p0, x.block < W.heap.size := by obtain ⟨m, hm⟩ := k0; exact DataW.trod_lt m _ _ _ hm
  obtain ⟨fuel0, hf0⟩ := h0
  obtain ⟨a0, Zud, cap0, rfl⟩ := okWide_slice Tryz.underlying22 (hval 0 22 v0 rfl rfl)
  obtain ⟨x0, M0, ⟨A0, c0, e0, ln0, mx0, sl0⟩, wf0⟩ := (ZrJ Tryz.underlying22 (by kernel_rfl) (ZrU Tryz.underlying5)) hf0
  simp [Value.cells] at e0
  obtain ⟨rfl, rfl, rfl⟩ := e0
  have le0 : x0.length ≤ 9223372036854775807 := by unfold maxLen at mx0; omega
  clear hA0 hval0
  refine (ZNN W hJ _ _ x0 M0 ⟨_, _, rfl, ln0, mx0, sl0⟩).mono fun e W' ⟨he, bel⟩ => ?_
  subst he
  exact ⟨_, rfl, _, _, _, [], _, [], hW', trodAll_mk1 (shut_bool Tryz.underlying4 _), (trodAll_cons_mk (Below.trod laidOut (by kernel_rfl) (of_decide_eq_true (by kernel_rfl)) k0 bel lt0) trodAll_mk0), rfl, bel.frame _, fun h => by cases h⟩

theorem kA : ((laidOutB Tryz.prog) && (mapsRowed Tryz.prog) && (Rows.fnWithdrawnFactRow.plainKeys == Tryz.prog.plainKeys) && (Tryz.prog.stopsHeard) && (Tryz.prog.mayEnter) && (Rows.fnWithdrawnFactRow.lifted == Tryz.prog.liftsFinal) && (Tryz.prog.make == some Rows.fnWithdrawnFactRow.make)) = true := by kernel_rfl
theorem kB : ((Rows.fnWithdrawnFactRow.inPlace == Tryz.prog.inPlace 9) && (Rows.fnWithdrawnFactRow.unfollowed == Tryz.prog.unfollowed 9) && (Rows.fnWithdrawnFactRow.recurses == Tryz.prog.recurses 9) && (Rows.fnWithdrawnFactRow.named == Tryz.prog.varsNamed 9)) = true := by kernel_rfl
theorem k0 : (laidOutB Tryz.prog) = true := by
  have h := kA
  simp only [Bool.and_eq_true] at h
  exact h.1.1.1.1.1.1
theorem k1 : (mapsRowed Tryz.prog) = true := by
  have h := kA
  simp only [Bool.and_eq_true] at h
  exact h.1.1.1.1.1.2
theorem k6 : (Rows.fnWithdrawnFactRow.plainKeys == Tryz.prog.plainKeys) = true := by
  have h := kA
  simp only [Bool.and_eq_true] at h
  exact h.1.1.1.1.2
theorem k7 : (Tryz.prog.stopsHeard) = true := by
  have h := kA
  simp only [Bool.and_eq_true] at h
  exact h.1.1.1.2
theorem k8 : (Tryz.prog.mayEnter) = true := by
  have h := kA
  simp only [Bool.and_eq_true] at h
  exact h.1.1.2
theorem k9 : (Rows.fnWithdrawnFactRow.lifted == Tryz.prog.liftsFinal) = true := by
  have h := kA
  simp only [Bool.and_eq_true] at h
  exact h.1.2
theorem k10 : (Tryz.prog.make == some Rows.fnWithdrawnFactRow.make) = true := by
  have h := kA
  simp only [Bool.and_eq_true] at h
  exact h.2
theorem k2 : (Rows.fnWithdrawnFactRow.inPlace == Tryz.prog.inPlace 9) = true := by
  have h := kB
  simp only [Bool.and_eq_true] at h
  exact h.1.1.1
theorem k3 : (Rows.fnWithdrawnFactRow.unfollowed == Tryz.prog.unfollowed 9) = true := by
  have h := kB
  simp only [Bool.and_eq_true] at h
  exact h.1.1.2
theorem k4 : (Rows.fnWithdrawnFactRow.recurses == Tryz.prog.recurses 9) = true := by
  have h := kB
  simp only [Bool.and_eq_true] at h
  exact h.1.2
theorem k5 : (Rows.fnWithdrawnFactRow.named == Tryz.prog.varsNamed 9) = true := by
  have h := kB
  simp only [Bool.and_eq_true] at h
  exact h.2
theorem closed : joinedFacts Tryz.prog 9 Tryz.f9 Rows.fnWithdrawnFactSpec Rows.fnWithdrawnFactRow = true := by
  unfold joinedFacts
  rw [k0, k1, k2, k3, k4, k5, k6, k7, k8, k9, k10]
  kernel_rfl

theorem said : Rows.FnWithdrawnFactSaid :=
  OpenClaim.holds_of_wide 9 Tryz.f9 rfl rfl rfl rfl rfl rfl rfl ⟨rfl, rfl, rfl, rfl, rfl⟩ rfl rfl rfl rfl rfl (by kernel_rfl) Tryz.func9 closed
    (of_decide_eq_true (by kernel_rfl)) (by unfold Func.isWrapper; first | (rw [if_pos (by decide +kernel)]; kernel_rfl) | (rw [if_neg (by decide +kernel)]; exact ⟨rfl, rfl⟩))
    (fun os started H enc _ => lifted os started H enc)

theorem plainArgs (f : FuncId) (fn : Func) (hf : Tryz.pinned.checked.prog.funcNamed "loop.example/g03015/laws.FnWithdrawnFact" = some f) (hfn : Tryz.pinned.checked.prog.funcs[f]? = some fn) :
    true = Tryz.pinned.checked.prog.looks [] ∧ ∀ (j : Nat) t, fn.params[j]? = some t → Tryz.pinned.checked.prog.wantsStandIn t = false := by
  obtain rfl : f = 9 := Option.some.inj ((show Tryz.prog.funcNamed "loop.example/g03015/laws.FnWithdrawnFact" = some 9 by kernel_rfl).symm.trans hf) |>.symm
  obtain rfl : fn = Tryz.f9 := (Option.some.inj (Tryz.func9.symm.trans hfn)).symm
  refine ⟨by kernel_rfl, fun j t ht => ?_⟩
  rw [Tryz.params9] at ht
  have hm : t ∈ [22] := by simpa using Array.mem_of_getElem? ht
  have hall : ([22].all fun u => !Tryz.prog.wantsStandIn u) = true := by kernel_rfl
  exact (show Tryz.prog.wantsStandIn t = false by simpa using List.all_eq_true.1 hall t hm)

theorem proved : Rows.FnWithdrawnFactCardSaid :=
  Claim7.holds_tied_plain_at .later [] _ _ _ _ said (fun _ h => by cases h) (by kernel_rfl) (fun _ h => by cases h) fnWithdrawnFact_row_tie rfl ⟨rfl, rfl⟩ (by kernel_rfl) rfl plainArgs (by kernel_rfl)
end Go.Proofs.YtfehfkfdfmcgfaaGreatDoor.fnWithdrawnFact
