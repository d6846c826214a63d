/-
The law DiskArms: true.
-/
import Derived.Test.YtldefibkaoboeaaDkLBad
namespace Go.Proofs.Ytldefibkaoboeaa.Dk
open Go.RowKit Go.Maps Go.Proofs.YtldefibkaoboeaaW.PrintWords Go.Proofs.YtldefibkaoboeaaW.PrintLast Go.Proofs.YtldefibkaoboeaaW.PrintMore
set_option linter.unusedVariables false
set_option linter.unusedSimpArgs false

theorem DiskArms_out (w : World) (n m : Int) (h : n < 0 ∨ 0 ≤ n ∧ 50 < n ∨ 0 ≤ n ∧ n ≤ 50 ∧ m < 1 ∨ 0 ≤ n ∧ n ≤ 50 ∧ 1 ≤ m ∧ 50 < m) : Calls Try.prog 6 #[.int .i64 n, .int .i64 m] w fun e w' => e = .returned (.bool true) ∧ Below w.heap.size w w' := by
  rcases h with h | ⟨h, h2⟩ | ⟨h, h2, h3⟩ | ⟨h, h2, h3, h4⟩
  all_goals
    go_enter Try.func6, Try.ntmps6
    go_wp2_with fail
    refine (anchor_true w).mono ?_
    rintro e w1 ⟨rfl, b1⟩
    have B1 := Fact.mk b1
    clear b1
    go_wp2_with fail
    go_ret
    exact ⟨rfl, B1.out⟩
theorem no_bools (W : World) : ReadBool W none ([] : List Bool).length [] := ⟨rfl, by simp, fun h => absurd h (by simp)⟩
set_option maxHeartbeats 1000000 in
theorem DiskArms_in (w : World) (n m : Nat) (hn : n ≤ 50) (hm : 1 ≤ m) (hm2 : m ≤ 50) : Calls Try.prog 6 #[.int .i64 (n : Int), .int .i64 (m : Int)] w fun e w' => e = .returned (.bool true) ∧ Below w.heap.size w w' := by
  go_enter Try.func6, Try.ntmps6
  go_wp2_with fail
  refine (anchor_true w).mono ?_
  rintro e w1 ⟨rfl, b1⟩
  have B1 := Fact.mk b1
  clear b1
  go_wp2_with fail
  refine (New_good (n := 8) (by omega) (by omega)).mono ?_
  rintro e w2 ⟨L, rfl, h2, hl, b2⟩
  have H2 := Fact.mk h2
  have HL := Fact.mk (fun k hk => Nat.le_trans B1.out.size (hl k hk))
  have B2 := Fact.mk (next_new B1.out b2)
  clear h2 hl b2 B1
  go_wp2_with fail
  refine (Arm_any H2.out (n : Int) (by omega)).mono ?_
  rintro e w3 ⟨rfl, h3, o3⟩
  have H3 := Fact.mk (show ∃ D, IsDisk w3 L D ∧ PD.Arms n 0 D from ⟨_, h3, PD.Arms.start (PD.Up.new 8) rfl n⟩)
  have B3 := Fact.mk (next_below B2.out o3 HL.out)
  clear h3 o3 H2 B2
  go_wp2_with fail
  go_loopw [35] (fun v35 wr => ∃ j : Nat, v35 = .int .i64 (j : Int) ∧ j ≤ n + m ∧ Fact (∃ D, IsDisk wr L D ∧ PD.Arms n j D) ∧ Fact (Below w.heap.size w wr)) (fun v _ => n + m - (intOf v).toNat)
  case atStart => exact ⟨0, rfl, Nat.zero_le _, H3, B3⟩
  case round =>
    obtain ⟨j, rfl, hj, R1, R2⟩ := hrel
    clear H3 B3
    by_cases hlt : j < n + m
    · have hlt2 : (j : Int) < (n : Int) + (m : Int) := by omega
      have hq : j % 8 < 8 := by omega
      have hqe : (j : Int) % 8 = ((j % 8 : Nat) : Int) := by omega
      have HQ := Fact.mk hqe
      clear hqe
      generalize hqd : j % 8 = q at *
      clear hqd
      obtain ⟨D, hD, hA⟩ := R1.out
      have HD := Fact.mk hD
      have HA := Fact.mk hA
      clear hD hA R1
      by_cases hjn : j < n
      · have d1 : decide (j < n) = true := by simpa using hjn
        have d2 : decide (n ≤ j) = false := by simp; omega
        rcases Nat.mod_two_eq_zero_or_one j with hp | hp
        · have hp2 : ((j : Int) % 2 == 0) = true := by simp; omega
          clear hp
          go_wp2_with fail
          rw [HQ.out]
          have HX := Fact.mk (fun x : Int => HA.out.write_lt hjn hq (b := [x]) (by simp))
          refine (Write_to (HD.out.alloc _) (q : Int) [_] wr.heap.size 1 (bytes_new wr [_] 5 (by simp)) (HD.out.fresh (Nat.le_refl _)) (HX.out _).1).mono ?_
          rintro e w4 ⟨rfl, h4, o4⟩
          have H4 := Fact.mk h4
          have B4 := Fact.mk (next_alloc R2.out o4 HL.out)
          clear h4 o4
          go_wp2_with fail
          refine (Down_any H4.out).mono ?_
          rintro e w5 ⟨rfl, rfl⟩
          rw [((HX.out _).2).down]
          go_wp2_with fail
          exact ⟨⟨j + 1, by go_num, by omega, ⟨⟨_, H4.out, (HX.out _).2⟩⟩, B4⟩, by simp [intOf]; omega⟩
        · have hp2 : ((j : Int) % 2 == 0) = false := by simp; omega
          clear hp
          go_wp2_with fail
          have HX := Fact.mk (HA.out.flush_lt hjn)
          refine (Flush_to HD.out HX.out.1).mono ?_
          rintro e w4 ⟨rfl, h4, o4⟩
          have H4 := Fact.mk h4
          have B4 := Fact.mk (next_below R2.out o4 HL.out)
          clear h4 o4
          go_wp2_with fail
          refine (Down_any H4.out).mono ?_
          rintro e w5 ⟨rfl, rfl⟩
          rw [(HX.out.2).down]
          go_wp2_with fail
          exact ⟨⟨j + 1, by go_num, by omega, ⟨⟨_, H4.out, HX.out.2⟩⟩, B4⟩, by simp [intOf]; omega⟩
      · have d1 : decide (j < n) = false := by simpa using hjn
        have d2 : decide (n ≤ j) = true := by simp; omega
        rcases Nat.mod_two_eq_zero_or_one j with hp | hp
        · have hp2 : ((j : Int) % 2 == 0) = true := by simp; omega
          clear hp
          go_wp2_with fail
          rw [HQ.out]
          have HX := Fact.mk (fun x : Int => HA.out.write_ge (Nat.le_of_not_lt hjn) hq (b := [x]) (by simp))
          generalize (IntKind.u8.wrap ((j : Int) + 1)) = x at *
          obtain ⟨D', e1, e2⟩ := HX.out _
          refine (Write_to (HD.out.alloc _) (q : Int) [_] wr.heap.size 1 (bytes_new wr [_] 5 (by simp)) (HD.out.fresh (Nat.le_refl _)) e1).mono ?_
          have HE := Fact.mk e2
          clear e1 e2
          rintro e w4 ⟨rfl, h4, o4⟩
          have H4 := Fact.mk h4
          have B4 := Fact.mk (next_alloc R2.out o4 HL.out)
          clear h4 o4
          go_wp2_with fail
          refine (Down_any H4.out).mono ?_
          rintro e w5 ⟨rfl, rfl⟩
          rw [(HE.out).down]
          go_wp2_with fail
          exact ⟨⟨j + 1, by go_num, by omega, ⟨⟨_, H4.out, HE.out⟩⟩, B4⟩, by simp [intOf]; omega⟩
        · have hp2 : ((j : Int) % 2 == 0) = false := by simp; omega
          clear hp
          go_wp2_with fail
          obtain ⟨D', e1, e2⟩ := HA.out.flush_ge (Nat.le_of_not_lt hjn)
          refine (Flush_to HD.out e1).mono ?_
          have HE := Fact.mk e2
          clear e1 e2
          rintro e w4 ⟨rfl, h4, o4⟩
          have H4 := Fact.mk h4
          have B4 := Fact.mk (next_below R2.out o4 HL.out)
          clear h4 o4
          go_wp2_with fail
          refine (Down_any H4.out).mono ?_
          rintro e w5 ⟨rfl, rfl⟩
          rw [(HE.out).down]
          go_wp2_with fail
          exact ⟨⟨j + 1, by go_num, by omega, ⟨⟨_, H4.out, HE.out⟩⟩, B4⟩, by simp [intOf]; omega⟩
    · have he : j = n + m := by omega
      subst he
      have hlt2 : ¬ ((n : Int) + (m : Int) < (n : Int) + (m : Int)) := by omega
      obtain ⟨D, hD, hA⟩ := R1.out
      have HD := Fact.mk hD
      have HR := Fact.mk (PD.read_down (hA.dn (by omega)) 0)
      clear hD hA R1
      go_wp2_with fail
      refine (Read_no HD.out 0 HR.out).mono ?_
      rintro e w4 ⟨A4, c4, rfl, h4, b4⟩
      have H4 := Fact.mk h4
      have B4 := Fact.mk (next_new R2.out b4)
      clear h4 b4
      go_wp2_with fail
      refine (Crash_any H4.out none 0 [] (fun W _ => no_bools W)).mono ?_
      rintro e w5 ⟨rfl, h5, o5⟩
      have H5 := Fact.mk h5
      have B5 := Fact.mk (next_below B4.out o5 HL.out)
      clear h5 o5
      go_wp2_with fail
      refine (Down_any H5.out).mono ?_
      rintro e w6 ⟨rfl, rfl⟩
      rw [(PD.Up.crash D []).down]
      go_wp2_with fail
      refine (Flush_to H5.out (PD.Up.crash D []).flush).mono ?_
      rintro e w7 ⟨rfl, h7, o7⟩
      have B7 := Fact.mk (next_below B5.out o7 HL.out)
      clear h7 o7
      go_wp2_with fail
      go_ret
      exact ⟨rfl, B7.out⟩
/-- The law's function. -/
theorem DiskArms_true (w : World) (n : Int) (_ : (Lit.int .i64 n).wf = true) (m : Int) (_ : (Lit.int .i64 m).wf = true) : Calls Try.prog 6 #[.int .i64 n, .int .i64 m] w fun e w' => e = .returned (.bool true) ∧ Below w.heap.size w w' := by
  by_cases h : 0 ≤ n ∧ n ≤ 50 ∧ 1 ≤ m ∧ m ≤ 50
  · obtain ⟨k, rfl⟩ := Int.eq_ofNat_of_zero_le h.1
    obtain ⟨q, rfl⟩ := Int.eq_ofNat_of_zero_le (show 0 ≤ m by omega)
    exact DiskArms_in w k q (by omega) (by omega) (by omega)
  · exact DiskArms_out w n m (by omega)
end Go.Proofs.Ytldefibkaoboeaa.Dk
