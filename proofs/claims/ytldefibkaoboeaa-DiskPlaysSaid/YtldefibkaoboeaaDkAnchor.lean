/-
The laws' anchor on a disk: true.
-/
import Derived.Test.YtldefibkaoboeaaDkLaw
namespace Go.Proofs.Ytldefibkaoboeaa.Dk
open Go.RowKit Go.Maps Go.Proofs.YtldefibkaoboeaaW.PrintWords Go.Proofs.YtldefibkaoboeaaW.PrintLast Go.Proofs.YtldefibkaoboeaaW.PrintMore
set_option linter.unusedVariables false
set_option linter.unusedSimpArgs false

namespace An
def D0 : PD := PD.new 4
def D1 : PD := (D0.write 3 [7]).2
def D2 : PD := (D1.write 1 [8]).2
def D3 : PD := D2.crash [false, true]
theorem e1 : D0.write 3 [7] = (0, D1) := rfl
theorem e2 : D1.write 1 [8] = (0, D2) := rfl
theorem e3 : D3.read 3 = (pad [7], 0) := rfl
theorem e4 : D3.read 1 = (pad [], 0) := rfl
theorem e5 : D3.ikeys = [] := rfl
end An
theorem anchor_true (w : World) : Calls Try.prog 9 #[] w fun e w' => e = .returned (.bool true) ∧ Below w.heap.size w w' := by
  go_enter Try.func9, Try.ntmps9
  go_wp2_with fail
  refine (New_good (n := 4) (by omega) (by omega)).mono ?_
  rintro e w1 ⟨L, rfl, h1, hl, hb1⟩
  have H1 := Fact.mk (show IsDisk w1 L An.D0 from h1)
  have B1 := Fact.mk hb1
  have HL := Fact.mk hl
  clear h1 hb1 hl
  go_wp2_with fail
  refine (Write_to (H1.out.alloc _) 3 [7] w1.heap.size 1 (bytes_new w1 [7] 5 (by simp)) (H1.out.fresh (Nat.le_refl _)) An.e1).mono ?_
  rintro e w2 ⟨rfl, h2, o2⟩
  have H2 := Fact.mk h2
  have B2 := Fact.mk (B1.out.trans (((Below.refl _ _).alloc (B1.out.size) _).trans (o2.below (by have := B1.out.size; simp; omega) HL.out)))
  clear h2 o2
  go_wp2_with fail
  refine (Write_to (H2.out.alloc _) 1 [8] w2.heap.size 1 (bytes_new w2 [8] 5 (by simp)) (H2.out.fresh (Nat.le_refl _)) An.e2).mono ?_
  rintro e w3 ⟨rfl, h3, o3⟩
  have H3 := Fact.mk h3
  have B3 := Fact.mk (B2.out.trans (((Below.refl _ _).alloc (B2.out.size) _).trans (o3.below (by have := B2.out.size; simp; omega) HL.out)))
  clear h3 o3
  go_wp2_with fail
  refine (Crash_any (H3.out.alloc _) (some ⟨w3.heap.size, 0, none⟩) 2 [false, true] (bools_new w3 [false, true] 4 (by simp) L.S (H3.out.fresh (Nat.le_refl _)))).mono ?_
  rintro e w4 ⟨rfl, h4, o4⟩
  have H4 := Fact.mk (show IsDisk w4 L An.D3 from h4)
  have B4 := Fact.mk (B3.out.trans (((Below.refl _ _).alloc (B3.out.size) _).trans (o4.below (by have := B3.out.size; simp; omega) HL.out)))
  clear h4 o4
  clear H1 H2 H3 B1 B2 B3
  go_wp2_with fail
  refine (Read_to H4.out 3 An.e3 (pad_length _)).mono ?_
  rintro e w5 ⟨g5, c5, rfl, r5, l5, s5, h5, b5⟩
  have H5 := Fact.mk h5
  have B5 := Fact.mk (B4.out.trans (b5.mono B4.out.size))
  have R5 := Fact.mk (own_cell r5 0 7 rfl)
  have S5 := Fact.mk s5
  clear r5 l5 s5 h5 b5
  go_wp2_with fail
  refine (Read_to H5.out 1 An.e4 (pad_length _)).mono ?_
  rintro e w6 ⟨g6, c6, rfl, r6, l6, s6, h6, b6⟩
  have H6 := Fact.mk h6
  have B6 := Fact.mk (B5.out.trans (b6.mono B5.out.size))
  have c5a : w6.cell? ⟨g5, 0, none⟩ = some (.int .u8 7) := (b6.cell (p := ⟨g5, 0, none⟩) S5.out).trans R5.out
  have c6a : w6.cell? ⟨g6, 0, none⟩ = some (.int .u8 0) := own_cell r6 0 0 rfl
  clear r6 l6 s6 h6 b6 H4 H5 B4 B5 R5 S5
  go_wp2_with fail
  refine (Pending_any H6.out).mono ?_
  rintro e w7 ⟨v, rfl, r7, b7⟩
  rw [An.e5] at r7
  obtain ⟨A7, c7, rfl, _⟩ := Kd.R_reads r7
  have B7 := Fact.mk (B6.out.trans (b7.mono B6.out.size))
  clear r7 b7 H6 B6 c5a c6a
  go_wp2_with fail
  go_ret
  exact ⟨rfl, B7.out⟩
end Go.Proofs.Ytldefibkaoboeaa.Dk
