/-
  Proved: the Go law function 'pantrylaw17.SlotsHold' returns true at every input that can be read as data, and leaves its arguments as they were.
  Conditions: none of ours.
  The row out of the contract of the law's function (written by wip/tools/rowraw.py).
-/
import Derived.Test.YtdkijmikafmgaaaRows
import Derived.Test.YtdkijmikafmgaaaXLSlotsHold
import Derived.Test.YtdkijmikafmgaaaOpen
import Derived.WalkKit
import Derived.ProofKit
import Derived.OpenShut
import Derived.ShutString
import Derived.ChangeOld
import Derived.Below
import Derived.SizedLaws
import Derived.LaidMore
import Derived.Lay
import Derived.LaidLaws
import Derived.Deep.DeepHandedRow
import Derived.Deep.Strs
import Derived.SevenTiedAt
namespace Go.Proofs.Ytdkijmikafmgaaa.slotsHold
open Go.ChangeShapes Go.WideShapes Go.ChangeAt Go.RowKit Go.Proofs.Ytdkijmikafmgaaa.Dk Go.Proofs.Ytdkijmikafmgaaa.P Go.Proofs.YtdkijmikafmgaaaW.PrintWords Go.Proofs.YtdkijmikafmgaaaW.PrintLast
open Go.ChangeMaps (open_string shut_string)
set_option linter.unusedVariables false
set_option linter.unusedSimpArgs false
theorem own : ownKnob Try.prog.godebug = none := by kernel_rfl
theorem laidOut : laidOutB Try.prog = true := by kernel_rfl
theorem laid_met (os : Os) (args : Array Value) : laidMetH Try.prog [] ((World.laidAll Try.prog os []).forCall (fun _ _ => 0) ⟨#[], args, []⟩).memory := by
  rw [MakeChecks.laidMetH_plain _ _ _ (by kernel_rfl)]
  exact laidMet_laidAll _ (by kernel_rfl) (by kernel_rfl)
set_option maxRecDepth 100000 in
theorem lifted (os : Os) (started : os.Started) (H : Type) (enc : TypeId × Value → H) :
    ReturnsInHanded {} Try.checked os 3 .any ((OpenSpec.ofChange Rows.slotsHoldSpec).preRow enc Try.prog Try.f3 [] false []) (((OpenSpec.ofChange Rows.slotsHoldSpec).at (fun _ _ _ => 0)).post enc Try.prog Try.f3 false true false false) := by
  refine returnsInHanded_of_row (C := Try.checked) (s := OpenSpec.ofChange Rows.slotsHoldSpec) (F := fun _ _ _ => 0) own started (by kernel_rfl) Try.func3
    (ChangeSpec.witness_shaped (enc := enc) (C := Try.checked) (os := os) (s := Rows.slotsHoldSpec) (X := fun w _ => laidMetH Try.prog [] w) false (World.laidAll Try.prog os []) #[.slice none 0 0] 8 (World.laidAll_os _ _ _) (World.shaped_of_ZipB (by kernel_rfl) (by kernel_rfl)) (by kernel_rfl) (by kernel_rfl) (by kernel_rfl) (laid_met os _)) ?_
  intro W base args ds gs before hval0 hW hcnd _ hsz0 hlaid hshape _
  have hsz : (DataW.weightsEach Try.prog (Try.f3.params.toList ++ Rows.slotsHoldSpec.plain.varTypes Try.prog) (ds ++ gs)).all (· ≤ reachBytes) = true := hsz0
  have hval : ∀ (j : Nat) t v, Try.f3.params[j]? = some t → args[j]? = some v → Value.okWide Try.prog W .any base t v := hval0
  have hW' := hW
  obtain ⟨p, q, hA0, hV, rfl, hfz, hnd⟩ := hW
  have hA : DataW.TrodAll enc Try.prog W 0 (fun _ => true) true Try.f3.params.toList args.toList ds p := hA0
  rw [Try.params3] at hA hval hsz
  obtain ⟨v0, vs0, d0, ds0, p0, q0, hargs, rfl, rfl, h0, r0⟩ := trodAll_cons hA
  obtain ⟨rfl, rfl, rfl⟩ := trodAll_nil r0
  obtain rfl : args = #[v0] := by cases args; simp_all
  obtain ⟨rfl, rfl⟩ := trodVars_none hV
  obtain ⟨a0, len0, cap0, rfl⟩ := okWide_slice Try.underlying22 (hval 0 22 v0 rfl rfl)
  have k0 := h0
  have lt0 : ∀ x ∈ p0, x.block < W.heap.size := by obtain ⟨m, hm⟩ := k0; exact DataW.trod_lt m _ _ _ hm
  obtain ⟨fuel0, hf0⟩ := h0
  obtain ⟨l0, ⟨A0, c0, hcs0, hc0, hr0⟩, y0⟩ := (Opens.slice Try.underlying22 (Opens.slice Try.underlying29 (Opens.struct Try.underlying39 (Fields.cons rfl rfl (Opens.int Try.underlying3) (by kernel_rfl) (Fields.last rfl rfl (Opens.slice Try.underlying37 (Opens.int Try.underlying5) (by kernel_rfl)) (by kernel_rfl))) (by kernel_rfl)) (by kernel_rfl)) (by kernel_rfl)) enc W _ _ _ _ _ hf0
  simp only [Value.cells, List.cons.injEq, Value.slice.injEq, and_true] at hcs0
  obtain ⟨rfl, rfl, rfl⟩ := hcs0
  clear hA0 hval0 hsz0 hsz
  refine (SlotsHold_true W _ _ l0 hr0 hc0 y0).mono fun e W' hpost => ?_
  obtain ⟨he, bel⟩ := hpost
  subst he
  exact ⟨_, rfl, _, _, _, [], _, [], hW', trodAll_mk1 (shut_bool Try.underlying4 _), (trodAll_cons_mk (Below.trod laidOut (by kernel_rfl) (of_decide_eq_true (by kernel_rfl)) k0 bel lt0) trodAll_mk0), rfl, bel.frame _, fun h => by cases h⟩
theorem over : Rows.slotsHoldRow.holds Try.pinned (OpenSpec.ofChange Rows.slotsHoldSpec) :=
  OpenClaim.holds_of_wide 3 Try.f3 rfl rfl rfl rfl rfl rfl rfl ⟨rfl, rfl, rfl, rfl, rfl⟩ rfl rfl rfl rfl rfl (by kernel_rfl) Try.func3 (by kernel_rfl)
    (of_decide_eq_true (by kernel_rfl)) (by unfold Func.isWrapper; first | (rw [if_pos (by decide +kernel)]; kernel_rfl) | (rw [if_neg (by decide +kernel)]; exact ⟨rfl, rfl⟩))
    (fun os started H enc _ => by rw [OpenClaim.pre_eq_preRow]; exact lifted os started H enc)
end Go.Proofs.Ytdkijmikafmgaaa.slotsHold
namespace Go.Proofs.Ytdkijmikafmgaaa
theorem slotsHold_holds : Rows.SlotsHoldSaid := slotsHold.over
#print axioms slotsHold_holds
end Go.Proofs.Ytdkijmikafmgaaa
