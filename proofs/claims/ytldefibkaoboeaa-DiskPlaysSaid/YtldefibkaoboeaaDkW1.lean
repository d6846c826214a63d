/-
What the disk's small functions do: is there a sector; a call begins; how many sectors; is it down; armed.
-/
import Derived.Test.YtldefibkaoboeaaDk
import Derived.WalkLawsBesides
import Derived.IntWalk
namespace Go.Proofs.Ytldefibkaoboeaa.Dk
open Go.RowKit Go.Maps
set_option linter.unusedVariables false
set_option linter.unusedSimpArgs false

theorem ret_bool {a b : Bool} (h : a = b) : Ending.returned (.bool a) = .returned (.bool b) := by rw [h]
theorem ret_int {k : IntKind} {a b : Int} (h : a = b) : Ending.returned (.int k a) = .returned (.int k b) := by rw [h]
theorem there_any {w : World} {L : DL} {D : PD} (h : IsDisk w L D) (i : Int) :
    Calls Try.prog 28 #[.pointer (some ⟨L.p, 0, none⟩), .int .i64 i] w fun e w' => e = .returned (.bool (D.there i)) ∧ w = w' := by
  have c0 := h.c0
  have H := Lib.hid h
  clear h
  go_enter Try.func28, Try.ntmps28
  go_wp2
  all_goals
    go_ret
    refine ⟨ret_bool ?_, rfl⟩
    simp only [PD.there]
    simp
    try omega
theorem Len_any {w : World} {L : DL} {D : PD} (h : IsDisk w L D) :
    Calls Try.prog 19 #[.pointer (some ⟨L.p, 0, none⟩)] w fun e w' => e = .returned (.int .i64 (D.n : Int)) ∧ w = w' := by
  have c0 := h.c0
  have H := Lib.hid h
  clear h
  go_enter Try.func19, Try.ntmps19
  go_wp2
  go_ret
  exact ⟨rfl, rfl⟩
theorem Down_any {w : World} {L : DL} {D : PD} (h : IsDisk w L D) :
    Calls Try.prog 17 #[.pointer (some ⟨L.p, 0, none⟩)] w fun e w' => e = .returned (.bool D.down) ∧ w = w' := by
  have c4 := h.c4
  have H := Lib.hid h
  clear h
  go_enter Try.func17, Try.ntmps17
  go_wp2
  go_ret
  exact ⟨rfl, rfl⟩
/-- What a call on the disk leaves: the disk as told, and all else as it was. -/
def Now (w : World) (L : DL) (D : PD) (w' : World) : Prop := IsDisk w' L D ∧ Only L.S w w'
theorem armed {w : World} {L : DL} {D : PD} (h : IsDisk w L D) {k v : Int} (hk : k < 9223372036854775808) (hv : v = max k (-1)) : IsDisk (w.setCell ⟨L.p, 3, none⟩ (.int .i64 v)) L (D.arm k) := by
  subst hv
  exact h.setLeft _ (by omega) (by omega)
theorem called {w : World} {L : DL} {D : PD} (h : IsDisk w L D) {v : Int} (hv : v = max (D.left - 1) (-1)) : IsDisk ((w.setCell ⟨L.p, 4, none⟩ (.bool (D.left == 0))).setCell ⟨L.p, 3, none⟩ (.int .i64 v)) L D.call := by
  subst hv
  have hh := h.good.hi
  exact (h.setDown (D.left == 0)).setLeft _ (by omega) (by omega)
theorem Arm_any {w : World} {L : DL} {D : PD} (h : IsDisk w L D) (k : Int) (hk : k < 9223372036854775808) :
    Calls Try.prog 16 #[.pointer (some ⟨L.p, 0, none⟩), .int .i64 k] w fun e w' => e = .returned (.tuple #[]) ∧ Now w L (D.arm k) w' := by
  have c3 := h.c3
  have f3 := h.f 3
  have H := Lib.hid h
  have HK := Lib.hid hk
  clear h hk
  go_enter Try.func16, Try.ntmps16
  go_wp2
  all_goals
    go_end0
    exact ⟨rfl, armed H.out HK.out (by omega), Only.setCell w L.S_p _⟩
theorem call_any {w : World} {L : DL} {D : PD} (h : IsDisk w L D) :
    Calls Try.prog 29 #[.pointer (some ⟨L.p, 0, none⟩)] w fun e w' => e = .returned (.bool (!D.call.down)) ∧ Now w L D.call w' := by
  have c3 := h.c3
  have c4 := h.c4
  have f3 := h.f 3
  have f4 := h.f 4
  have hl : -1 ≤ D.left := h.good.lo
  have hh : D.left ≤ 9223372036854775807 := by have := h.good.hi; omega
  have H := Lib.hid h
  clear h
  go_enter Try.func29, Try.ntmps29
  go_wp2
  all_goals
    go_ret
    exact ⟨rfl, called H.out (by omega), (Only.setCell w L.S_p _).trans (Only.setCell _ L.S_p _)⟩
end Go.Proofs.Ytldefibkaoboeaa.Dk
