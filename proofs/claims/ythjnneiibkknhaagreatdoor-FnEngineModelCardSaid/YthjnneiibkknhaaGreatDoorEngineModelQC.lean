/- A part of the proof of the law's statement; no conditions. -/
import Derived.Test.YthjnneiibkknhaaGreatDoorCards
import Derived.Test.YthjnneiibkknhaaGreatDoorTie
import Derived.WalkKit
import Derived.ProofKit
import Derived.LaidMore
import Derived.OpenShut
import Derived.ShutString
import Derived.ChangeOld
import Derived.Below
import Derived.Stop.Joined
import Derived.Stop.LaidErr
import Derived.LaidHandle
import Derived.MakeChecks
import Derived.SevenTiedAt
import Derived.Lib.LaidTab
import Derived.Test.YthjnneiibkknhaaGreatDoorEngineModelQB
import Derived.Test.YthjnneiibkknhaaGreatDoorEngineModelQA
namespace Go.Proofs.YthjnneiibkknhaaGreatDoor.fnEngineModel
open Go.ChangeShapes Go.WideShapes Go.ChangeAt Go.RowKit
open Go.ChangeMaps (open_string shut_string)
theorem k0 : (laidOutB Tryz.prog) = true := by
  have h := kA
  simp only [Bool.and_eq_true] at h
  exact h.1.1.1.1.1.1
theorem k1 : (mapsRowed Tryz.prog) = true := by
  have h := kA
  simp only [Bool.and_eq_true] at h
  exact h.1.1.1.1.1.2
theorem k6 : (Rows.fnEngineModelRow.plainKeys == Tryz.prog.plainKeys) = true := by
  have h := kA
  simp only [Bool.and_eq_true] at h
  exact h.1.1.1.1.2
theorem k7 : (Tryz.prog.stopsHeard) = true := by
  have h := kA
  simp only [Bool.and_eq_true] at h
  exact h.1.1.1.2
theorem k8 : (Tryz.prog.mayEnter) = true := by
  have h := kA
  simp only [Bool.and_eq_true] at h
  exact h.1.1.2
theorem k9 : (Rows.fnEngineModelRow.lifted == Tryz.prog.liftsFinal) = true := by
  have h := kA
  simp only [Bool.and_eq_true] at h
  exact h.1.2
theorem k10 : (Tryz.prog.make == some Rows.fnEngineModelRow.make) = true := by
  have h := kA
  simp only [Bool.and_eq_true] at h
  exact h.2
theorem k2 : (Rows.fnEngineModelRow.inPlace == Tryz.prog.inPlace 3) = true := by
  have h := kB
  simp only [Bool.and_eq_true] at h
  exact h.1.1.1
theorem k3 : (Rows.fnEngineModelRow.unfollowed == Tryz.prog.unfollowed 3) = true := by
  have h := kB
  simp only [Bool.and_eq_true] at h
  exact h.1.1.2
theorem k4 : (Rows.fnEngineModelRow.recurses == Tryz.prog.recurses 3) = true := by
  have h := kB
  simp only [Bool.and_eq_true] at h
  exact h.1.2
theorem k5 : (Rows.fnEngineModelRow.named == Tryz.prog.varsNamed 3) = true := by
  have h := kB
  simp only [Bool.and_eq_true] at h
  exact h.2
theorem closed : joinedFacts Tryz.prog 3 Tryz.f3 Rows.fnEngineModelSpec Rows.fnEngineModelRow = true := by
  unfold joinedFacts
  rw [k0, k1, k2, k3, k4, k5, k6, k7, k8, k9, k10]
  kernel_rfl

theorem plainArgs (f : FuncId) (fn : Func) (hf : Tryz.pinned.checked.prog.funcNamed "loop.example/g03015/laws.FnEngineModel" = some f) (hfn : Tryz.pinned.checked.prog.funcs[f]? = some fn) :
    true = Tryz.pinned.checked.prog.looks [] ∧ ∀ (j : Nat) t, fn.params[j]? = some t → Tryz.pinned.checked.prog.wantsStandIn t = false := by
  obtain rfl : f = 3 := Option.some.inj ((show Tryz.prog.funcNamed "loop.example/g03015/laws.FnEngineModel" = some 3 by kernel_rfl).symm.trans hf) |>.symm
  obtain rfl : fn = Tryz.f3 := (Option.some.inj (Tryz.func3.symm.trans hfn)).symm
  refine ⟨by kernel_rfl, fun j t ht => ?_⟩
  rw [Tryz.params3] at ht
  have hm : t ∈ [22] := by simpa using Array.mem_of_getElem? ht
  have hall : ([22].all fun u => !Tryz.prog.wantsStandIn u) = true := by kernel_rfl
  exact (show Tryz.prog.wantsStandIn t = false by simpa using List.all_eq_true.1 hall t hm)


end Go.Proofs.YthjnneiibkknhaaGreatDoor.fnEngineModel
