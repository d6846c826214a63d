/-
The law DiskBad: true.
-/
import Derived.Test.YtldefibkaoboeaaDkAnchor
namespace Go.Proofs.Ytldefibkaoboeaa.Dk
open Go.RowKit Go.Maps Go.Proofs.YtldefibkaoboeaaW.PrintWords Go.Proofs.YtldefibkaoboeaaW.PrintLast Go.Proofs.YtldefibkaoboeaaW.PrintMore
set_option linter.unusedVariables false
set_option linter.unusedSimpArgs false

theorem pad_one (x : Int) : (pad [x])[0]? = some x := rfl
theorem DiskBad_out (w : World) (i x y : Int) (h : i < 0 ∨ 7 < i) : Calls Try.prog 7 #[.int .i64 i, .int .u8 x, .int .u8 y] w fun e w' => e = .returned (.bool true) ∧ Below w.heap.size w w' := by
  by_cases h1 : i < 0
  · clear h
    go_enter Try.func7, Try.ntmps7
    go_wp2_with fail
    refine (anchor_true w).mono ?_
    rintro e w1 ⟨rfl, b1⟩
    have B1 := Fact.mk b1
    clear b1
    go_wp2_with fail
    go_ret
    exact ⟨rfl, B1.out⟩
  · have h2 : 7 < i := by omega
    clear h
    go_enter Try.func7, Try.ntmps7
    go_wp2_with fail
    refine (anchor_true w).mono ?_
    rintro e w1 ⟨rfl, b1⟩
    have B1 := Fact.mk b1
    clear b1
    go_wp2_with fail
    go_ret
    exact ⟨rfl, B1.out⟩
/-- The next world: what lay ahead of the call lies there. -/
theorem next_below {w w1 w2 : World} {S : Nat → Prop} (h : Below w.heap.size w w1) (ho : Only S w1 w2) (hs : ∀ k, S k → w.heap.size ≤ k) : Below w.heap.size w w2 := h.trans (ho.below h.size hs)
theorem next_alloc {w w1 w2 : World} {S : Nat → Prop} {o : Obj} (h : Below w.heap.size w w1) (ho : Only S (w1.alloc o) w2) (hs : ∀ k, S k → w.heap.size ≤ k) : Below w.heap.size w w2 :=
  next_below (h.alloc h.size o) ho hs
theorem next_new {w w1 w2 : World} (h : Below w.heap.size w w1) (hb : Below w1.heap.size w1 w2) : Below w.heap.size w w2 := h.trans (hb.mono h.size)
theorem DiskBad_in (w : World) (i : Nat) (x y : Int) (hi : i < 8) : Calls Try.prog 7 #[.int .i64 (i : Int), .int .u8 x, .int .u8 y] w fun e w' => e = .returned (.bool true) ∧ Below w.heap.size w w' := by
  have u0 := PD.Up.new 8
  have u1 := u0.put i (pad [x])
  have u2 := u1.stand fun _ => true
  have u3 := u2.badden i true
  have u4 := u3.put i (pad [y])
  have u5 := u4.badden i false
  have E := Fact.mk (show (PD.new 8).write (i : Int) [x] = (0, (PD.new 8).put i (pad [x])) ∧ ((PD.new 8).put i (pad [x])).flush = (0, ((PD.new 8).put i (pad [x])).stand fun _ => true) from ⟨u0.write hi (by simp), u1.flush⟩)
  go_enter Try.func7, Try.ntmps7
  go_wp2_with fail
  refine (anchor_true w).mono ?_
  rintro e w1 ⟨rfl, b1⟩
  have B1 := Fact.mk b1
  clear b1
  go_wp2_with fail
  refine (New_good (n := 8) (by omega) (by omega)).mono ?_
  rintro e w2 ⟨L, rfl, h2, hl, b2⟩
  have H2 := Fact.mk h2
  have HL := Fact.mk (fun k hk => Nat.le_trans B1.out.size (hl k hk))
  have B2 := Fact.mk (next_new B1.out b2)
  clear h2 hl b2 B1
  go_wp2_with fail
  refine (Write_to (H2.out.alloc _) (i : Int) [x] w2.heap.size 1 (bytes_new w2 [x] 5 (by simp)) (H2.out.fresh (Nat.le_refl _)) E.out.1).mono ?_
  rintro e w3 ⟨rfl, h3, o3⟩
  have H3 := Fact.mk h3
  have B3 := Fact.mk (next_alloc B2.out o3 HL.out)
  clear h3 o3 H2 B2
  go_wp2_with fail
  refine (Flush_to H3.out E.out.2).mono ?_
  rintro e w4 ⟨rfl, h4, o4⟩
  have H4 := Fact.mk h4
  have B4 := Fact.mk (next_below B3.out o4 HL.out)
  clear h4 o4 H3 B3
  go_wp2_with fail
  refine (Bad_to H4.out (i : Int) true (u2.setBad hi true)).mono ?_
  rintro e w5 ⟨rfl, h5, o5⟩
  have H5 := Fact.mk h5
  have B5 := Fact.mk (next_below B4.out o5 HL.out)
  clear h5 o5 H4 B4
  go_wp2_with fail
  refine (Read_no H5.out (i : Int) (u3.read_bad hi (by simp [PD.badden]))).mono ?_
  rintro e w6 ⟨A6, c6, rfl, h6, b6⟩
  have H6 := Fact.mk h6
  have B6 := Fact.mk (next_new B5.out b6)
  clear h6 b6 H5 B5
  go_wp2_with fail
  rw [show ((i : Int) + 1) % 8 = (((i + 1) % 8 : Nat) : Int) from by omega]
  have hq : (i + 1) % 8 < 8 := by omega
  have hne : (i + 1) % 8 ≠ i := by omega
  generalize (i + 1) % 8 = q at *
  refine (Read_to H6.out (q : Int) (u3.read hq (by simp [PD.badden, hne]; rfl)) (PD.now_length H6.out.good q)).mono ?_
  rintro e w7 ⟨g7, c7, rfl, r7, l7, s7, h7, b7⟩
  have H7 := Fact.mk h7
  have B7 := Fact.mk (next_new B6.out b7)
  clear r7 l7 s7 h7 b7 H6 B6 hq hne
  go_wp2_with fail
  refine (Write_to (H7.out.alloc _) (i : Int) [y] w7.heap.size 1 (bytes_new w7 [y] 5 (by simp)) (H7.out.fresh (Nat.le_refl _)) (u3.write hi (by simp))).mono ?_
  rintro e w8 ⟨rfl, h8, o8⟩
  have H8 := Fact.mk h8
  have B8 := Fact.mk (next_alloc B7.out o8 HL.out)
  clear h8 o8 H7 B7
  go_wp2_with fail
  refine (Read_no H8.out (i : Int) (u4.read_bad hi (by simp [PD.badden, PD.put]))).mono ?_
  rintro e w9 ⟨A9, c9, rfl, h9, b9⟩
  have H9 := Fact.mk h9
  have B9 := Fact.mk (next_new B8.out b9)
  clear h9 b9 H8 B8
  go_wp2_with fail
  refine (Bad_to H9.out (i : Int) false (u4.setBad hi false)).mono ?_
  rintro e w10 ⟨rfl, h10, o10⟩
  have H10 := Fact.mk h10
  have B10 := Fact.mk (next_below B9.out o10 HL.out)
  clear h10 o10 H9 B9
  go_wp2_with fail
  have hr : PD.read (((((((PD.new 8).put i (pad [x])).stand fun _ => true).badden i true).put i (pad [y]))).badden i false) (i : Int) = (pad [y], 0) := by
    rw [u5.read hi (by simp [PD.badden]), PD.now_badden, PD.now_put_same]
  refine (Read_to H10.out (i : Int) hr (pad_length _)).mono ?_
  rintro e w11 ⟨g11, c11, rfl, r11, l11, s11, h11, b11⟩
  have c11a : w11.cell? ⟨g11, 0, none⟩ = some (.int .u8 y) := own_cell r11 0 y (pad_one y)
  have B11 := Fact.mk (next_new B10.out b11)
  clear r11 l11 s11 h11 b11 hr H10 B10
  go_wp2_with fail
  go_ret
  exact ⟨rfl, B11.out⟩
/-- The law's function. -/
theorem DiskBad_true (w : World) (i : Int) (_ : (Lit.int .i64 i).wf = true) (x : Int) (_ : (Lit.int .u8 x).wf = true) (y : Int) (_ : (Lit.int .u8 y).wf = true) : Calls Try.prog 7 #[.int .i64 i, .int .u8 x, .int .u8 y] w fun e w' => e = .returned (.bool true) ∧ Below w.heap.size w w' := by
  by_cases h : i < 0 ∨ 7 < i
  · exact DiskBad_out w i x y h
  · obtain ⟨k, rfl⟩ := Int.eq_ofNat_of_zero_le (show 0 ≤ i by omega)
    exact DiskBad_in w k x y (by omega)
end Go.Proofs.Ytldefibkaoboeaa.Dk
