/-
The law RedoOnce: true.
-/
import Derived.Test.YtjpbpeiknnloeaaRdLBase2
namespace Go.Proofs.Ytjpbpeiknnloeaa.Dk
open Go.RowKit Go.Maps Go.Proofs.YtjpbpeiknnloeaaW.PrintWords Go.Proofs.YtjpbpeiknnloeaaW.PrintLast Go.Proofs.YtjpbpeiknnloeaaW.PrintMore
set_option linter.unusedVariables false
set_option linter.unusedSimpArgs false

set_option maxHeartbeats 8000000 in
set_option maxRecDepth 1000000 in
theorem RedoOnce_true (w : World) (A : Option Addr) (ca : Nat) (a : List Ch) (hA : Kd.C inK w A a.length a) (hca : a.length ≤ ca) {pa : Prop} (_ : pa) (t : Int) (ht : (Lit.int .i64 t).wf = true) :
    Calls Try.prog 7 #[.slice A a.length ca, .int .i64 t] w fun e w' => e = .returned (.bool true) ∧ Below w.heap.size w w' := by
  have HA := Fact.mk hA
  clear hA
  go_enter Try.func7, Try.ntmps7
  go_wp2_with fail
  refine (anchor_true w).mono ?_
  rintro e w1 ⟨rfl, b1⟩
  have B1 := Fact.mk b1
  clear b1
  go_wp2_with fail
  refine (small_one B1.out HA.out ca).mono ?_
  rintro e w2 ⟨bs, rfl, -, b2⟩
  have B2 := Fact.mk b2
  clear b2 B1
  cases bs with
  | false =>
    go_wp2_with fail
    go_ret
    exact ⟨rfl, B2.out⟩
  | true =>
    by_cases ht1 : t < 1
    · go_wp2_with fail
      go_ret
      exact ⟨rfl, B2.out⟩
    · by_cases ht2 : 6 < t
      · go_wp2_with fail
        go_ret
        exact ⟨rfl, B2.out⟩
      · obtain ⟨m, rfl⟩ := Int.eq_ofNat_of_zero_le (show 0 ≤ t by omega)
        go_wp2_with fail
        refine (New_law w B2.out (n := 120) (by omega) (by omega)).mono ?_
        rintro e w3 ⟨L, rfl, h3⟩
        have H3 := Fact.mk h3
        clear h3 B2
        go_wp2_with fail
        refine (Open_first H3.out (by decide) new_rests.lows (open_rests new_rests (by decide) rfl)).mono ?_
        rintro e w4 ⟨q, rfl, h4⟩
        have H4 := Fact.mk h4
        clear h4 H3
        go_wp2_with fail
        have hcA : Chs (RS L q) w4 A a := (args_of HA.out H4.out.new).step (Only.of_below H4.out.below _)
        obtain ⟨e1, D1, f1, hd1, hr1, hu1, -⟩ := do_rests new_rests (PD.Up.new 120) a
        refine (Do_law H4.out A ca hcA hd1).mono ?_
        rintro e w5 ⟨rfl, h5, -⟩
        have H5 := Fact.mk h5
        have R1 := Fact.mk hr1
        have U1 := Fact.mk hu1.down
        clear h5 hcA hd1 hr1 hu1 H4
        go_wp2_with fail
        refine (whole_rests H5.out R1.out U1.out).mono ?_
        rintro e w6 ⟨Aw, cw, rfl, hw6, h6, b6⟩
        have hs6 := seen_string (hw6 (fun _ => False) (fun _ h => h.elim))
        have I0 : Fact (∃ D, Rests 120 f1 D ∧ D.down = false ∧ Jr w w6 L D q false) := ⟨D1, R1.out, U1.out, h6⟩
        clear hw6 h6 b6 H5 R1 U1
        go_wp2_with fail
        clear hs6
        go_loopw [45] (fun v45 wr => ∃ i : Nat, v45 = .int .i64 (i : Int) ∧ i ≤ m ∧ Fact (∃ D, Rests 120 f1 D ∧ D.down = false ∧ Jr w wr L D q false)) (fun v _ => m - (intOf v).toNat)
        case atStart => exact ⟨0, rfl, Nat.zero_le _, I0⟩
        case round =>
          obtain ⟨i, rfl, hi, R⟩ := hrel
          clear I0
          obtain ⟨D, hr, hd, hj⟩ := R.out
          have HR := Fact.mk hr
          have HD := Fact.mk hd
          have HJ := Fact.mk hj
          clear R hr hd hj
          by_cases hlt : i < m
          · have hlt2 : (i : Int) < (m : Int) := by omega
            go_wp2_with fail
            refine (Arm_law HJ.out 0 (by decide)).mono ?_
            rintro e w7 ⟨rfl, h7, -⟩
            have H7 := Fact.mk h7
            have R7 := Fact.mk (HR.out.arm (k := 0) (by decide))
            have U7 : Fact ((D.arm 0).down = false) := ⟨HD.out⟩
            clear h7 HJ HR HD
            generalize D.arm 0 = D7 at *
            go_wp2_with fail
            refine (Open_law H7.out (by rw [R7.out.size]; decide) R7.out.lows (open_rests R7.out (by decide) U7.out)).mono ?_
            rintro e w8 ⟨q', rfl, h8, h8', -⟩
            have H8 := Fact.mk h8
            have H8' := Fact.mk h8'
            clear h8 h8' H7
            go_wp2_with fail
            refine (Down_any H8.out.disk).mono ?_
            rintro e w9 ⟨rfl, rfl⟩
            rw [U7.out]
            go_wp2_with fail
            refine (whole_rests H8'.out R7.out U7.out).mono ?_
            rintro e w10 ⟨Av, cv, rfl, hw10, h10, b10⟩
            have hs10 := seen_string (hw10 (fun _ => False) (fun _ h => h.elim))
            have I1 : Fact (∃ D, Rests 120 f1 D ∧ D.down = false ∧ Jr w w10 L D q false) := ⟨D7, R7.out, U7.out, H8.out.step b10⟩
            clear hw10 h10 b10 H8 H8' R7 U7
            go_wp2_with fail
            exact ⟨⟨i + 1, by go_num, by omega, I1⟩, by simp [intOf]; omega⟩
          · have he : i = m := by omega
            subst he
            have hlt2 : ¬ ((i : Int) < (i : Int)) := by omega
            go_wp2_with fail
            refine (Pending_none HJ.out.disk HR.out.set).mono ?_
            rintro e w7 ⟨Ap, cp, rfl, b7⟩
            have B7 := Fact.mk (next_new HJ.out.below b7)
            clear b7 HJ HR HD
            go_wp2_with fail
            go_ret
            exact ⟨rfl, B7.out⟩
end Go.Proofs.Ytjpbpeiknnloeaa.Dk
