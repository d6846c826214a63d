-- Printed by wip/tools/extprint.py (the kit's print.py run with hand-written externals)
import Derived.Test.YtnbgffndhkgdpaaDoorPx0
import Derived.Test.YtnbgffndhkgdpaaDoorPx2
import Derived.Test.YtnbgffndhkgdpaaDoorPx6
namespace Go.Proofs.YtnbgffndhkgdpaaDoor.P
open Go.RowKit Go.Proofs.YtnbgffndhkgdpaaDoorW.PrintWords Go.Proofs.YtnbgffndhkgdpaaDoorW.PrintLast Go.Proofs.YtnbgffndhkgdpaaDoorW.PrintMore
attribute [local go_sem] max2_int min2_int max_two min_two max_three min_three max_four min_four   -- for this text's walks alone
set_option linter.unusedVariables false
set_option linter.unusedSimpArgs false

/-! ### pantrylaw01_SignQuotes: function 5 -/
mutual
def pantrylaw01_SignQuotes.j0 : Nat → ByteArray → Bool → Option (Bool)
  | 0, _, _ => none
  | k + 1, x0, x33 => if x33 = true then (some false) else (pantrylaw01_SignQuotes.l0 k x0 (⟨#[34]⟩ : ByteArray) (x0.size : Int) 0)
def pantrylaw01_SignQuotes.l0 : Nat → ByteArray → ByteArray → Int → Int → Option (Bool)
  | 0, _, _, _, _ => none
  | k + 1, x0, x7, x35, x36 => if x36 < x35 then (if 0 ≤ x36 then (if x36 < (x0.size : Int) then (if (bt x0 x36) = 34 then (if x7.size + 1 ≤ 9223372036854775807 then (if x36 ≤ (wrap64 (x36 + 1)) then (if (wrap64 (x36 + 1)) ≤ (x0.size : Int) then (if (x7 ++ (⟨#[92]⟩ : ByteArray)).size + (x0.extract (x36 : Int).toNat ((wrap64 (x36 + 1)) : Int).toNat).size ≤ 9223372036854775807 then (pantrylaw01_SignQuotes.l0 k x0 ((x7 ++ (⟨#[92]⟩ : ByteArray)) ++ (x0.extract (x36 : Int).toNat ((wrap64 (x36 + 1)) : Int).toNat)) x35 (wrap64 (x36 + 1))) else (none)) else (none)) else (none)) else (none)) else (if (bt x0 x36) = 92 then (if x7.size + 1 ≤ 9223372036854775807 then (if x36 ≤ (wrap64 (x36 + 1)) then (if (wrap64 (x36 + 1)) ≤ (x0.size : Int) then (if (x7 ++ (⟨#[92]⟩ : ByteArray)).size + (x0.extract (x36 : Int).toNat ((wrap64 (x36 + 1)) : Int).toNat).size ≤ 9223372036854775807 then (pantrylaw01_SignQuotes.l0 k x0 ((x7 ++ (⟨#[92]⟩ : ByteArray)) ++ (x0.extract (x36 : Int).toNat ((wrap64 (x36 + 1)) : Int).toNat)) x35 (wrap64 (x36 + 1))) else (none)) else (none)) else (none)) else (none)) else (if x36 ≤ (wrap64 (x36 + 1)) then (if (wrap64 (x36 + 1)) ≤ (x0.size : Int) then (if x7.size + (x0.extract (x36 : Int).toNat ((wrap64 (x36 + 1)) : Int).toNat).size ≤ 9223372036854775807 then (pantrylaw01_SignQuotes.l0 k x0 (x7 ++ (x0.extract (x36 : Int).toNat ((wrap64 (x36 + 1)) : Int).toNat)) x35 (wrap64 (x36 + 1))) else (none)) else (none)) else (none)))) else (none)) else (none)) else (if x7.size + 1 ≤ 9223372036854775807 then ((sign_Unquote.f k (x7 ++ (⟨#[34]⟩ : ByteArray))).bind fun bt182 => (if bt182.2 = true then (some (bt182.1.toList == x0.toList)) else (some false))) else (none))
end
def pantrylaw01_SignQuotes.f (k : Nat) (a0 : ByteArray) : Option (Bool) := (pantrylaw01_anchor.f k).bind fun t177 => (if t177 = true then (if (a0.size : Int) > 1000 then (some true) else ((sign_Unquote.f k a0).bind fun bt178 => ((pantryref01_Unquote.f k a0).bind fun bt180 => (if (bt178.2 != bt180.2) = true then (pantrylaw01_SignQuotes.j0 k a0 true) else (pantrylaw01_SignQuotes.j0 k a0 (bt178.1.toList != bt180.1.toList)))))) else (some false))
theorem pantrylaw01_SignQuotes.mono_l : ∀ k, (∀ y0 y1, LeO (pantrylaw01_SignQuotes.j0 k y0 y1) (pantrylaw01_SignQuotes.j0 (k + 1) y0 y1)) ∧ (∀ y0 y1 y2 y3, LeO (pantrylaw01_SignQuotes.l0 k y0 y1 y2 y3) (pantrylaw01_SignQuotes.l0 (k + 1) y0 y1 y2 y3))
  | 0 => ⟨fun _ _ r h => by simp [pantrylaw01_SignQuotes.j0] at h, fun _ _ _ _ r h => by simp [pantrylaw01_SignQuotes.l0] at h⟩
  | k + 1 => by
    obtain ⟨ih0, ih1⟩ := pantrylaw01_SignQuotes.mono_l k
    refine ⟨?_, ?_⟩
    · intro y0 y1
      unfold pantrylaw01_SignQuotes.j0
      repeat' first
      | (with_reducible exact ih0 _ _)
      | (with_reducible exact ih1 _ _ _ _)
      | (with_reducible exact pantrylaw01_anchor.mono _)
      | (with_reducible exact pantryref01_Unquote.mono _ _)
      | (with_reducible exact sign_Unquote.mono _ _)
      | (with_reducible exact LeO.refl _)
      | (with_reducible exact LeO.none _)
      | (with_reducible refine LeO.ite ?_ ?_)
      | (with_reducible refine LeO.bind ?_ (fun _ => ?_))
      | exact ih0 _ _
      | exact ih1 _ _ _ _
      | exact pantrylaw01_anchor.mono _
      | exact pantryref01_Unquote.mono _ _
      | exact sign_Unquote.mono _ _
      | exact LeO.none _
      | refine LeO.ite ?_ ?_
      | refine LeO.bind ?_ (fun _ => ?_)
    · intro y0 y1 y2 y3
      unfold pantrylaw01_SignQuotes.l0
      repeat' first
      | (with_reducible exact ih0 _ _)
      | (with_reducible exact ih1 _ _ _ _)
      | (with_reducible exact pantrylaw01_anchor.mono _)
      | (with_reducible exact pantryref01_Unquote.mono _ _)
      | (with_reducible exact sign_Unquote.mono _ _)
      | (with_reducible exact LeO.refl _)
      | (with_reducible exact LeO.none _)
      | (with_reducible refine LeO.ite ?_ ?_)
      | (with_reducible refine LeO.bind ?_ (fun _ => ?_))
      | exact ih0 _ _
      | exact ih1 _ _ _ _
      | exact pantrylaw01_anchor.mono _
      | exact pantryref01_Unquote.mono _ _
      | exact sign_Unquote.mono _ _
      | exact LeO.none _
      | refine LeO.ite ?_ ?_
      | refine LeO.bind ?_ (fun _ => ?_)
theorem pantrylaw01_SignQuotes.mono : ∀ a0 k, LeO (pantrylaw01_SignQuotes.f k a0) (pantrylaw01_SignQuotes.f (k + 1) a0) := by
  intro a0 k
  obtain ⟨ih0, ih1⟩ := pantrylaw01_SignQuotes.mono_l k
  unfold pantrylaw01_SignQuotes.f
  repeat' first
      | (with_reducible exact ih0 _ _)
      | (with_reducible exact ih1 _ _ _ _)
      | (with_reducible exact pantrylaw01_anchor.mono _)
      | (with_reducible exact pantryref01_Unquote.mono _ _)
      | (with_reducible exact sign_Unquote.mono _ _)
      | (with_reducible exact LeO.refl _)
      | (with_reducible exact LeO.none _)
      | (with_reducible refine LeO.ite ?_ ?_)
      | (with_reducible refine LeO.bind ?_ (fun _ => ?_))
      | exact ih0 _ _
      | exact ih1 _ _ _ _
      | exact pantrylaw01_anchor.mono _
      | exact pantryref01_Unquote.mono _ _
      | exact sign_Unquote.mono _ _
      | exact LeO.none _
      | refine LeO.ite ?_ ?_
      | refine LeO.bind ?_ (fun _ => ?_)
set_option maxHeartbeats 8000000 in
set_option maxRecDepth 100000 in
theorem pantrylaw01_SignQuotes.calls (k : Nat) (a0 : ByteArray) (r : Bool) (w : World) (h : pantrylaw01_SignQuotes.f k a0 = some r) :
    Calls Tryd.prog 5 #[.string a0] w fun e w' => e = .returned (.bool r) ∧ Below w.heap.size w w' := by
  have HB := Aside0.mk (Below.refl w.heap.size w)
  have H : ((pantrylaw01_anchor.f k).bind fun t177 => (if t177 = true then (if (a0.size : Int) > 1000 then (some true) else ((sign_Unquote.f k a0).bind fun bt178 => ((pantryref01_Unquote.f k a0).bind fun bt180 => (if (bt178.2 != bt180.2) = true then (pantrylaw01_SignQuotes.j0 k a0 true) else (pantrylaw01_SignQuotes.j0 k a0 (bt178.1.toList != bt180.1.toList)))))) else (some false))) = some r := h
  clear h
  replace H := Option.bind_eq_some_iff.mp H
  obtain ⟨t177, A20, H⟩ := H
  replace H : (if t177 = true then (if (a0.size : Int) > 1000 then (some true) else ((sign_Unquote.f k a0).bind fun bt178 => ((pantryref01_Unquote.f k a0).bind fun bt180 => (if (bt178.2 != bt180.2) = true then (pantrylaw01_SignQuotes.j0 k a0 true) else (pantrylaw01_SignQuotes.j0 k a0 (bt178.1.toList != bt180.1.toList)))))) else (some false)) = some r := H
  have A2 := Aside0.mk A20
  clear A20
  by_cases c3 : t177 = true
  · subst c3
    have H1 : (if (a0.size : Int) > 1000 then (some true) else ((sign_Unquote.f k a0).bind fun bt178 => ((pantryref01_Unquote.f k a0).bind fun bt180 => (if (bt178.2 != bt180.2) = true then (pantrylaw01_SignQuotes.j0 k a0 true) else (pantrylaw01_SignQuotes.j0 k a0 (bt178.1.toList != bt180.1.toList)))))) = some r := by rw [if_pos rfl] at H; exact H
    clear H
    have H := H1
    clear H1
    by_cases c4 : (a0.size : Int) > 1000
    · rw [if_pos c4] at H
      have c4b0 : decide (1000 < (a0.size : Int)) = true := decide_eq_true c4
      have c4b1 : decide (1000 < a0.size) = true := decide_eq_true (by omega)
      clear c4
      obtain rfl := Option.some.inj H
      go_enter Tryd.func5, Tryd.ntmps5
      go_wp2_with (first | ((with_reducible refine gate_callee (f := 11) rfl ?_); refine goesL_ (some 11) rfl rfl Tryd.func11 (by kernel_rfl) rfl #[] rfl (by (try simp only [List.map_toArray, List.map_cons, List.map_nil]); first | done | rfl | (simp only [List.length_drop, List.length_take]; rfl)) ?_; (with_reducible refine (pantrylaw01_anchor.calls k  true _ A2.out).mono ?_); rintro e w5 ⟨rfl, hb⟩; refine ⟨_, rfl, ?_⟩; have n0_ := Aside0.mk (below_step (by repeat (first | (with_reducible first | exact HB.out | apply below_alloc | apply pw_below_drewN | apply below_drew1) | exact HB.out)) hb); clear HB; have HB := n0_; clear n0_; (try clear hb); (try clear hb2); (try clear hk); (try clear hi)))
      go_ret
      exact ⟨by first | rfl | (simp [errW_none, errW_some] <;> rfl) | (simp [*, errW_none, errW_some] <;> rfl) | (simp [ne_nil_B, eq_nil_B, errW_none, errW_some]; done) | (simp [ne_nil_B, eq_nil_B, errW_none, errW_some] <;> rfl), by repeat (first | (with_reducible first | exact HB.out | apply below_alloc | apply pw_below_drewN | apply below_drew1) | exact HB.out)⟩
    · rw [if_neg c4] at H
      have c4b0 : decide (1000 < (a0.size : Int)) = false := decide_eq_false c4
      have c4b1 : decide (1000 < a0.size) = false := decide_eq_false (by omega)
      clear c4
      replace H := Option.bind_eq_some_iff.mp H
      obtain ⟨⟨t178, t179⟩, A60, H⟩ := H
      replace H : ((pantryref01_Unquote.f k a0).bind fun bt180 => (if (t179 != bt180.2) = true then (pantrylaw01_SignQuotes.j0 k a0 true) else (pantrylaw01_SignQuotes.j0 k a0 (t178.toList != bt180.1.toList)))) = some r := H
      have A6 := Aside0.mk A60
      clear A60
      replace H := Option.bind_eq_some_iff.mp H
      obtain ⟨⟨t180, t181⟩, A70, H⟩ := H
      replace H : (if (t179 != t181) = true then (pantrylaw01_SignQuotes.j0 k a0 true) else (pantrylaw01_SignQuotes.j0 k a0 (t178.toList != t180.toList))) = some r := H
      have A7 := Aside0.mk A70
      clear A70
      have HC8 := Aside0.mk H
      clear H
      go_enter Tryd.func5, Tryd.ntmps5
      go_upto_region 7 with (first | ((with_reducible refine gate_callee (f := 11) rfl ?_); refine goesL_ (some 11) rfl rfl Tryd.func11 (by kernel_rfl) rfl #[] rfl (by (try simp only [List.map_toArray, List.map_cons, List.map_nil]); first | done | rfl | (simp only [List.length_drop, List.length_take]; rfl)) ?_; (with_reducible refine (pantrylaw01_anchor.calls k  true _ A2.out).mono ?_); rintro e w9 ⟨rfl, hb⟩; refine ⟨_, rfl, ?_⟩; have n0_ := Aside0.mk (below_step (by repeat (first | (with_reducible first | exact HB.out | apply below_alloc | apply pw_below_drewN | apply below_drew1) | exact HB.out)) hb); clear HB; have HB := n0_; clear n0_; (try clear hb); (try clear hb2); (try clear hk); (try clear hi)) | ((with_reducible refine gate_callee (f := 17) rfl ?_); refine goesL_ (some 18) rfl rfl Tryd.func17 (by kernel_rfl) rfl #[.string a0] rfl (by (try simp only [List.map_toArray, List.map_cons, List.map_nil]); first | done | rfl | (simp only [List.length_drop, List.length_take]; rfl)) ?_; (with_reducible refine (sign_Unquote.calls k a0 t178 t179 _ A6.out).mono ?_); rintro e w10 ⟨rfl, hb⟩; refine ⟨_, rfl, ?_⟩; have n0_ := Aside0.mk (below_step (by repeat (first | (with_reducible first | exact HB.out | apply below_alloc | apply pw_below_drewN | apply below_drew1) | exact HB.out)) hb); clear HB; have HB := n0_; clear n0_; (try clear hb); (try clear hb2); (try clear hk); (try clear hi)) | ((with_reducible refine gate_callee (f := 18) rfl ?_); refine goesL_ (some 23) rfl rfl Tryd.func18 (by kernel_rfl) rfl #[.string a0] rfl (by (try simp only [List.map_toArray, List.map_cons, List.map_nil]); first | done | rfl | (simp only [List.length_drop, List.length_take]; rfl)) ?_; (with_reducible refine (pantryref01_Unquote.calls k a0 t180 t181 _ A7.out).mono ?_); rintro e w11 ⟨rfl, hb⟩; refine ⟨_, rfl, ?_⟩; have n0_ := Aside0.mk (below_step (by repeat (first | (with_reducible first | exact HB.out | apply below_alloc | apply pw_below_drewN | apply below_drew1) | exact HB.out)) hb); clear HB; have HB := n0_; clear n0_; (try clear hb); (try clear hb2); (try clear hk); (try clear hi)))
      (try simp only [Act.put, List.setIfInBounds_toArray, List.set_cons_zero, List.set_cons_succ])
      go_cut [33] (fun v33 wc => ∃ (kq : Nat) (x33_7 : Bool), v33 = .bool x33_7 ∧ Aside0 (pantrylaw01_SignQuotes.j0 kq a0 x33_7 = some r) ∧ Aside0 (kq ≤ k) ∧ Aside0 (Below w.heap.size w wc))
      case first =>
        have H := HC8.out
        clear HC8
        by_cases c12 : (t179 != t181) = true
        · rw [if_pos c12] at H
          have c12b0 : (t179 != t181) = true := c12
          (try (have c12b1 : decide (t179 = t181) = false := by simpa using c12))
          (try (have c12b2 : (t179 == t181) = false := by simpa using c12))
          (try (have c12b3 : ¬ (t179 = t181) := by simpa using c12))
          clear c12
          (first | rw [c12b0] | (simp only [i64_w, i32_w]; rw [c12b0]) | skip)
          have H' := Aside0.mk H
          clear H
          go_wp2
          go_meet
          case rel => exact ⟨_, (true), (by first | rfl | (simp; done) | (simp [*]; done) | (simp [ne_nil_B, eq_nil_B]; done)), H', ⟨by first | omega | exact Nat.le_refl _⟩, ⟨by repeat (first | (with_reducible first | exact HB.out | apply below_alloc | apply pw_below_drewN | apply below_drew1) | exact HB.out)⟩⟩
        · rw [if_neg c12] at H
          have c12b0 : (t179 != t181) = false := by simpa using c12
          (try (have c12b1 : decide (t179 = t181) = true := by simpa using c12))
          (try (have c12b2 : (t179 == t181) = true := by simpa using c12))
          clear c12
          (first | rw [c12b0] | (simp only [i64_w, i32_w]; rw [c12b0]) | skip)
          have H' := Aside0.mk H
          clear H
          go_wp2
          go_meet
          case rel => exact ⟨_, ((t178.toList != t180.toList)), (by first | rfl | (simp; done) | (simp [*]; done) | (simp [ne_nil_B, eq_nil_B]; done)), H', ⟨by first | omega | exact Nat.le_refl _⟩, ⟨by repeat (first | (with_reducible first | exact HB.out | apply below_alloc | apply pw_below_drewN | apply below_drew1) | exact HB.out)⟩⟩
      case rest =>
        clear HC8
        try clear c1
        try clear p2
        try clear c3
        try clear c4
        try clear c4b0
        try clear c4b1
        try clear c5
        try clear c11
        try clear c12
        try clear c12b0
        try clear c12b1
        try clear c12b2
        obtain ⟨kq, x33_7, rfl, HA, HJ7, HB⟩ := hcut
        cases kq with
        | zero => exact absurd HA.out (by simp [pantrylaw01_SignQuotes.j0])
        | succ kj7 =>
          have H := HA.out
          clear HA
          simp only [pantrylaw01_SignQuotes.j0] at H
          by_cases c13 : x33_7 = true
          · subst c13
            have H1 : (some false) = some r := by rw [if_pos rfl] at H; exact H
            clear H
            have H := H1
            clear H1
            obtain rfl := Option.some.inj H
            go_wp2
            go_ret
            exact ⟨by first | rfl | (simp [errW_none, errW_some] <;> rfl) | (simp [*, errW_none, errW_some] <;> rfl) | (simp [ne_nil_B, eq_nil_B, errW_none, errW_some]; done) | (simp [ne_nil_B, eq_nil_B, errW_none, errW_some] <;> rfl), by repeat (first | (with_reducible first | exact HB.out | apply below_alloc | apply pw_below_drewN | apply below_drew1) | exact HB.out)⟩
          · replace c13 := Bool.eq_false_iff.mpr c13
            subst c13
            have H1 : (pantrylaw01_SignQuotes.l0 kj7 a0 (⟨#[34]⟩ : ByteArray) (a0.size : Int) 0) = some r := by rw [if_neg (show ¬ (false = true) by decide)] at H; exact H
            clear H
            have H := H1
            clear H1
            have H' := Aside0.mk H
            clear H
            go_wp2
            go_loopg [7, 36] kj7 (fun kq v7 v36 w' => ∃ (x7_2 : ByteArray) (x36_2 : Int), v7 = .string x7_2 ∧ v36 = .int .i64 x36_2 ∧ Aside0 (pantrylaw01_SignQuotes.l0 kq a0 x7_2 (a0.size : Int) x36_2 = some r) ∧ Aside0 (kq ≤ kj7) ∧ Aside0 (Below w.heap.size w w'))
            case atStart => exact ⟨((⟨#[34]⟩ : ByteArray)), (0), (by first | rfl | (simp; done) | (simp [*]; done) | (simp [ne_nil_B, eq_nil_B]; done)), (by first | rfl | (simp; done) | (simp [*]; done) | (simp [ne_nil_B, eq_nil_B]; done)), H', ⟨Nat.le_refl _⟩, ⟨by repeat (first | (with_reducible first | exact HB.out | apply below_alloc | apply pw_below_drewN | apply below_drew1) | exact HB.out)⟩⟩
            case round =>
              clear H'
              try clear c1
              try clear p2
              try clear c3
              try clear c4
              try clear c4b0
              try clear c4b1
              try clear c5
              try clear c11
              try clear c12
              try clear c12b0
              try clear c12b1
              try clear c12b2
              try clear c13
              try clear p2
              obtain ⟨x7_2, x36_2, rfl, rfl, HA, HK2, HB⟩ := hrel
              cases gk with
              | zero => exact absurd HA.out (by simp [pantrylaw01_SignQuotes.l0])
              | succ k2 =>
                have H := HA.out
                clear HA
                simp only [pantrylaw01_SignQuotes.l0] at H
                by_cases c14 : x36_2 < (a0.size : Int)
                · rw [if_pos c14] at H
                  have c14b0 : decide (x36_2 < (a0.size : Int)) = true := decide_eq_true c14
                  clear c14
                  by_cases c15 : 0 ≤ x36_2
                  · rw [if_pos c15] at H
                    have c15b0 : decide (0 ≤ x36_2) = true := decide_eq_true c15
                    clear c15
                    by_cases c16 : x36_2 < (a0.size : Int)
                    · rw [if_pos c16] at H
                      have c16b0 : decide (x36_2 < (a0.size : Int)) = true := decide_eq_true c16
                      clear c16
                      by_cases c18 : (bt a0 x36_2) = 34
                      · rw [if_pos c18] at H
                        have c18b0 : ((bt a0 x36_2) == 34) = true := beq_iff_eq.mpr c18
                        have c18b1 : ((bt a0 x36_2) != 34) = false := bne_eq_false_iff_eq.mpr c18
                        clear c18
                        by_cases c19 : x7_2.size + 1 ≤ 9223372036854775807
                        · rw [if_pos c19] at H
                          have c19b0 := eq_true c19
                          have c19b1 : decide (x7_2.size + 1 ≤ 9223372036854775807) = true := decide_eq_true c19
                          try have c19b2 : (9223372036854775807 < x7_2.size + 1) = False := eq_false (Nat.not_lt.2 c19)
                          have c20b0 := eq_true (of_decide_eq_true (by first | (with_reducible assumption) | assumption) : 0 ≤ x36_2)
                          by_cases c21 : x36_2 ≤ (wrap64 (x36_2 + 1))
                          · rw [if_pos c21] at H
                            have c21b0 := eq_true c21
                            have c21b1 : decide (x36_2 ≤ (wrap64 (x36_2 + 1))) = true := decide_eq_true c21
                            by_cases c22 : (wrap64 (x36_2 + 1)) ≤ (a0.size : Int)
                            · rw [if_pos c22] at H
                              have c22b0 := eq_true c22
                              have c22b1 : decide ((wrap64 (x36_2 + 1)) ≤ (a0.size : Int)) = true := decide_eq_true c22
                              by_cases c23 : (x7_2 ++ (⟨#[92]⟩ : ByteArray)).size + (a0.extract (x36_2 : Int).toNat ((wrap64 (x36_2 + 1)) : Int).toNat).size ≤ 9223372036854775807
                              · rw [if_pos c23] at H
                                have c23b0 := eq_true c23
                                have c23b1 : decide ((x7_2 ++ (⟨#[92]⟩ : ByteArray)).size + (a0.extract (x36_2 : Int).toNat ((wrap64 (x36_2 + 1)) : Int).toNat).size ≤ 9223372036854775807) = true := decide_eq_true c23
                                try have c23b2 : (9223372036854775807 < (x7_2 ++ (⟨#[92]⟩ : ByteArray)).size + (a0.extract (x36_2 : Int).toNat ((wrap64 (x36_2 + 1)) : Int).toNat).size) = False := eq_false (Nat.not_lt.2 c23)
                                have H' := Aside0.mk H
                                clear H
                                have p17 : 0 ≤ (x36_2 : Int) := of_decide_eq_true (by first | (with_reducible assumption) | assumption)
                                have q17 : x36_2 < (a0.size : Int) := of_decide_eq_true (by first | (with_reducible assumption) | assumption)
                                have hx17 := bt_at a0 x36_2
                                replace p17 := eq_true p17
                                replace q17 := eq_true q17
                                go_wp2
                                go_roundg k2
                                case measure => have := HJ7.out; have := HK2.out; omega
                                case rel => exact ⟨((x7_2 ++ (⟨#[92]⟩ : ByteArray)) ++ (a0.extract (x36_2 : Int).toNat ((wrap64 (x36_2 + 1)) : Int).toNat)), (wrap64 (x36_2 + 1)), (by first | rfl | (simp; done) | (simp [*]; done) | (simp [ne_nil_B, eq_nil_B]; done)), (by first | rfl | (simp; done) | (simp [*]; done) | (simp [ne_nil_B, eq_nil_B]; done)), H', ⟨by have := HJ7.out; have := HK2.out; omega⟩, ⟨by repeat (first | (with_reducible first | exact HB.out | apply below_alloc | apply pw_below_drewN | apply below_drew1) | exact HB.out)⟩⟩
                              · rw [if_neg c23] at H
                                exact absurd H (by simp)
                            · rw [if_neg c22] at H
                              exact absurd H (by simp)
                          · rw [if_neg c21] at H
                            exact absurd H (by simp)
                        · rw [if_neg c19] at H
                          exact absurd H (by simp)
                      · rw [if_neg c18] at H
                        have c18b0 : ((bt a0 x36_2) == 34) = false := beq_eq_false_iff_ne.mpr c18
                        have c18b1 : ((bt a0 x36_2) != 34) = true := bne_iff_ne.mpr c18
                        by_cases c25 : (bt a0 x36_2) = 92
                        · rw [if_pos c25] at H
                          have c25b0 : ((bt a0 x36_2) == 92) = true := beq_iff_eq.mpr c25
                          have c25b1 : ((bt a0 x36_2) != 92) = false := bne_eq_false_iff_eq.mpr c25
                          clear c25
                          by_cases c26 : x7_2.size + 1 ≤ 9223372036854775807
                          · rw [if_pos c26] at H
                            have c26b0 := eq_true c26
                            have c26b1 : decide (x7_2.size + 1 ≤ 9223372036854775807) = true := decide_eq_true c26
                            try have c26b2 : (9223372036854775807 < x7_2.size + 1) = False := eq_false (Nat.not_lt.2 c26)
                            have c27b0 := eq_true (of_decide_eq_true (by first | (with_reducible assumption) | assumption) : 0 ≤ x36_2)
                            by_cases c28 : x36_2 ≤ (wrap64 (x36_2 + 1))
                            · rw [if_pos c28] at H
                              have c28b0 := eq_true c28
                              have c28b1 : decide (x36_2 ≤ (wrap64 (x36_2 + 1))) = true := decide_eq_true c28
                              by_cases c29 : (wrap64 (x36_2 + 1)) ≤ (a0.size : Int)
                              · rw [if_pos c29] at H
                                have c29b0 := eq_true c29
                                have c29b1 : decide ((wrap64 (x36_2 + 1)) ≤ (a0.size : Int)) = true := decide_eq_true c29
                                by_cases c30 : (x7_2 ++ (⟨#[92]⟩ : ByteArray)).size + (a0.extract (x36_2 : Int).toNat ((wrap64 (x36_2 + 1)) : Int).toNat).size ≤ 9223372036854775807
                                · rw [if_pos c30] at H
                                  have c30b0 := eq_true c30
                                  have c30b1 : decide ((x7_2 ++ (⟨#[92]⟩ : ByteArray)).size + (a0.extract (x36_2 : Int).toNat ((wrap64 (x36_2 + 1)) : Int).toNat).size ≤ 9223372036854775807) = true := decide_eq_true c30
                                  try have c30b2 : (9223372036854775807 < (x7_2 ++ (⟨#[92]⟩ : ByteArray)).size + (a0.extract (x36_2 : Int).toNat ((wrap64 (x36_2 + 1)) : Int).toNat).size) = False := eq_false (Nat.not_lt.2 c30)
                                  have H' := Aside0.mk H
                                  clear H
                                  have p17 : 0 ≤ (x36_2 : Int) := of_decide_eq_true (by first | (with_reducible assumption) | assumption)
                                  have q17 : x36_2 < (a0.size : Int) := of_decide_eq_true (by first | (with_reducible assumption) | assumption)
                                  have hx17 := bt_at a0 x36_2
                                  replace p17 := eq_true p17
                                  replace q17 := eq_true q17
                                  have p24 : 0 ≤ (x36_2 : Int) := of_decide_eq_true (by first | (with_reducible assumption) | assumption)
                                  have q24 : x36_2 < (a0.size : Int) := of_decide_eq_true (by first | (with_reducible assumption) | assumption)
                                  have hx24 := bt_at a0 x36_2
                                  replace p24 := eq_true p24
                                  replace q24 := eq_true q24
                                  go_wp2
                                  go_roundg k2
                                  case measure => have := HJ7.out; have := HK2.out; omega
                                  case rel => exact ⟨((x7_2 ++ (⟨#[92]⟩ : ByteArray)) ++ (a0.extract (x36_2 : Int).toNat ((wrap64 (x36_2 + 1)) : Int).toNat)), (wrap64 (x36_2 + 1)), (by first | rfl | (simp; done) | (simp [*]; done) | (simp [ne_nil_B, eq_nil_B]; done)), (by first | rfl | (simp; done) | (simp [*]; done) | (simp [ne_nil_B, eq_nil_B]; done)), H', ⟨by have := HJ7.out; have := HK2.out; omega⟩, ⟨by repeat (first | (with_reducible first | exact HB.out | apply below_alloc | apply pw_below_drewN | apply below_drew1) | exact HB.out)⟩⟩
                                · rw [if_neg c30] at H
                                  exact absurd H (by simp)
                              · rw [if_neg c29] at H
                                exact absurd H (by simp)
                            · rw [if_neg c28] at H
                              exact absurd H (by simp)
                          · rw [if_neg c26] at H
                            exact absurd H (by simp)
                        · rw [if_neg c25] at H
                          have c25b0 : ((bt a0 x36_2) == 92) = false := beq_eq_false_iff_ne.mpr c25
                          have c25b1 : ((bt a0 x36_2) != 92) = true := bne_iff_ne.mpr c25
                          have c31b0 := eq_true (of_decide_eq_true (by first | (with_reducible assumption) | assumption) : 0 ≤ x36_2)
                          by_cases c32 : x36_2 ≤ (wrap64 (x36_2 + 1))
                          · rw [if_pos c32] at H
                            have c32b0 := eq_true c32
                            have c32b1 : decide (x36_2 ≤ (wrap64 (x36_2 + 1))) = true := decide_eq_true c32
                            by_cases c33 : (wrap64 (x36_2 + 1)) ≤ (a0.size : Int)
                            · rw [if_pos c33] at H
                              have c33b0 := eq_true c33
                              have c33b1 : decide ((wrap64 (x36_2 + 1)) ≤ (a0.size : Int)) = true := decide_eq_true c33
                              by_cases c34 : x7_2.size + (a0.extract (x36_2 : Int).toNat ((wrap64 (x36_2 + 1)) : Int).toNat).size ≤ 9223372036854775807
                              · rw [if_pos c34] at H
                                have c34b0 := eq_true c34
                                have c34b1 : decide (x7_2.size + (a0.extract (x36_2 : Int).toNat ((wrap64 (x36_2 + 1)) : Int).toNat).size ≤ 9223372036854775807) = true := decide_eq_true c34
                                try have c34b2 : (9223372036854775807 < x7_2.size + (a0.extract (x36_2 : Int).toNat ((wrap64 (x36_2 + 1)) : Int).toNat).size) = False := eq_false (Nat.not_lt.2 c34)
                                have H' := Aside0.mk H
                                clear H
                                have p17 : 0 ≤ (x36_2 : Int) := of_decide_eq_true (by first | (with_reducible assumption) | assumption)
                                have q17 : x36_2 < (a0.size : Int) := of_decide_eq_true (by first | (with_reducible assumption) | assumption)
                                have hx17 := bt_at a0 x36_2
                                replace p17 := eq_true p17
                                replace q17 := eq_true q17
                                have p24 : 0 ≤ (x36_2 : Int) := of_decide_eq_true (by first | (with_reducible assumption) | assumption)
                                have q24 : x36_2 < (a0.size : Int) := of_decide_eq_true (by first | (with_reducible assumption) | assumption)
                                have hx24 := bt_at a0 x36_2
                                replace p24 := eq_true p24
                                replace q24 := eq_true q24
                                go_wp2
                                go_roundg k2
                                case measure => have := HJ7.out; have := HK2.out; omega
                                case rel => exact ⟨(x7_2 ++ (a0.extract (x36_2 : Int).toNat ((wrap64 (x36_2 + 1)) : Int).toNat)), (wrap64 (x36_2 + 1)), (by first | rfl | (simp; done) | (simp [*]; done) | (simp [ne_nil_B, eq_nil_B]; done)), (by first | rfl | (simp; done) | (simp [*]; done) | (simp [ne_nil_B, eq_nil_B]; done)), H', ⟨by have := HJ7.out; have := HK2.out; omega⟩, ⟨by repeat (first | (with_reducible first | exact HB.out | apply below_alloc | apply pw_below_drewN | apply below_drew1) | exact HB.out)⟩⟩
                              · rw [if_neg c34] at H
                                exact absurd H (by simp)
                            · rw [if_neg c33] at H
                              exact absurd H (by simp)
                          · rw [if_neg c32] at H
                            exact absurd H (by simp)
                    · rw [if_neg c16] at H
                      exact absurd H (by simp)
                  · rw [if_neg c15] at H
                    exact absurd H (by simp)
                · rw [if_neg c14] at H
                  have c14b0 : decide (x36_2 < (a0.size : Int)) = false := decide_eq_false c14
                  clear c14
                  by_cases c35 : x7_2.size + 1 ≤ 9223372036854775807
                  · rw [if_pos c35] at H
                    have c35b0 := eq_true c35
                    have c35b1 : decide (x7_2.size + 1 ≤ 9223372036854775807) = true := decide_eq_true c35
                    try have c35b2 : (9223372036854775807 < x7_2.size + 1) = False := eq_false (Nat.not_lt.2 c35)
                    replace H := Option.bind_eq_some_iff.mp H
                    obtain ⟨⟨t182, t183⟩, A360, H⟩ := H
                    replace H : (if t183 = true then (some (t182.toList == a0.toList)) else (some false)) = some r := H
                    have A36 := Aside0.mk A360
                    clear A360
                    by_cases c37 : t183 = true
                    · subst c37
                      have H1 : (some (t182.toList == a0.toList)) = some r := by rw [if_pos rfl] at H; exact H
                      clear H
                      have H := H1
                      clear H1
                      obtain rfl := Option.some.inj H
                      go_wp2_with (first | ((with_reducible refine gate_callee (f := 17) rfl ?_); refine goesL_ (some 62) rfl rfl Tryd.func17 (by kernel_rfl) rfl #[.string (x7_2 ++ (⟨#[34]⟩ : ByteArray))] rfl (by (try simp only [List.map_toArray, List.map_cons, List.map_nil]); first | done | rfl | (simp only [List.length_drop, List.length_take]; rfl)) ?_; (with_reducible refine (sign_Unquote.calls k2 (x7_2 ++ (⟨#[34]⟩ : ByteArray)) t182 true _ A36.out).mono ?_); rintro e w38 ⟨rfl, hb⟩; refine ⟨_, rfl, ?_⟩; have n0_ := Aside0.mk (below_step (by repeat (first | (with_reducible first | exact HB.out | apply below_alloc | apply pw_below_drewN | apply below_drew1) | exact HB.out)) hb); clear HB; have HB := n0_; clear n0_; (try clear hb); (try clear hb2); (try clear hk); (try clear hi)))
                      go_ret
                      exact ⟨by first | rfl | (simp [errW_none, errW_some] <;> rfl) | (simp [*, errW_none, errW_some] <;> rfl) | (simp [ne_nil_B, eq_nil_B, errW_none, errW_some]; done) | (simp [ne_nil_B, eq_nil_B, errW_none, errW_some] <;> rfl), by repeat (first | (with_reducible first | exact HB.out | apply below_alloc | apply pw_below_drewN | apply below_drew1) | exact HB.out)⟩
                    · replace c37 := Bool.eq_false_iff.mpr c37
                      subst c37
                      have H1 : (some false) = some r := by rw [if_neg (show ¬ (false = true) by decide)] at H; exact H
                      clear H
                      have H := H1
                      clear H1
                      obtain rfl := Option.some.inj H
                      go_wp2_with (first | ((with_reducible refine gate_callee (f := 17) rfl ?_); refine goesL_ (some 62) rfl rfl Tryd.func17 (by kernel_rfl) rfl #[.string (x7_2 ++ (⟨#[34]⟩ : ByteArray))] rfl (by (try simp only [List.map_toArray, List.map_cons, List.map_nil]); first | done | rfl | (simp only [List.length_drop, List.length_take]; rfl)) ?_; (with_reducible refine (sign_Unquote.calls k2 (x7_2 ++ (⟨#[34]⟩ : ByteArray)) t182 false _ A36.out).mono ?_); rintro e w39 ⟨rfl, hb⟩; refine ⟨_, rfl, ?_⟩; have n0_ := Aside0.mk (below_step (by repeat (first | (with_reducible first | exact HB.out | apply below_alloc | apply pw_below_drewN | apply below_drew1) | exact HB.out)) hb); clear HB; have HB := n0_; clear n0_; (try clear hb); (try clear hb2); (try clear hk); (try clear hi)))
                      go_ret
                      exact ⟨by first | rfl | (simp [errW_none, errW_some] <;> rfl) | (simp [*, errW_none, errW_some] <;> rfl) | (simp [ne_nil_B, eq_nil_B, errW_none, errW_some]; done) | (simp [ne_nil_B, eq_nil_B, errW_none, errW_some] <;> rfl), by repeat (first | (with_reducible first | exact HB.out | apply below_alloc | apply pw_below_drewN | apply below_drew1) | exact HB.out)⟩
                  · rw [if_neg c35] at H
                    exact absurd H (by simp)
  · replace c3 := Bool.eq_false_iff.mpr c3
    subst c3
    have H1 : (some false) = some r := by rw [if_neg (show ¬ (false = true) by decide)] at H; exact H
    clear H
    have H := H1
    clear H1
    obtain rfl := Option.some.inj H
    go_enter Tryd.func5, Tryd.ntmps5
    go_wp2_with (first | ((with_reducible refine gate_callee (f := 11) rfl ?_); refine goesL_ (some 11) rfl rfl Tryd.func11 (by kernel_rfl) rfl #[] rfl (by (try simp only [List.map_toArray, List.map_cons, List.map_nil]); first | done | rfl | (simp only [List.length_drop, List.length_take]; rfl)) ?_; (with_reducible refine (pantrylaw01_anchor.calls k  false _ A2.out).mono ?_); rintro e w40 ⟨rfl, hb⟩; refine ⟨_, rfl, ?_⟩; have n0_ := Aside0.mk (below_step (by repeat (first | (with_reducible first | exact HB.out | apply below_alloc | apply pw_below_drewN | apply below_drew1) | exact HB.out)) hb); clear HB; have HB := n0_; clear n0_; (try clear hb); (try clear hb2); (try clear hk); (try clear hi)))
    go_ret
    exact ⟨by first | rfl | (simp [errW_none, errW_some] <;> rfl) | (simp [*, errW_none, errW_some] <;> rfl) | (simp [ne_nil_B, eq_nil_B, errW_none, errW_some]; done) | (simp [ne_nil_B, eq_nil_B, errW_none, errW_some] <;> rfl), by repeat (first | (with_reducible first | exact HB.out | apply below_alloc | apply pw_below_drewN | apply below_drew1) | exact HB.out)⟩

/-! ### pantryref01_Number: function 20 -/
mutual
def pantryref01_Number.l0 : Nat → ByteArray → Int → Int → Option (Int × Bool)
  | 0, _, _, _ => none
  | k + 1, x0, x4, x5 => if x5 < (x0.size : Int) then (if 0 ≤ x5 then (if (bt x0 x5) < 48 then (pantryref01_Number.j1 k x0 x4 x5 true) else (pantryref01_Number.j1 k x0 x4 x5 (decide ((bt x0 x5) > 57)))) else (none)) else (if x4 > 2147483648 then (some (2147483648, decide ((x0.size : Int) > 0))) else (some (x4, decide ((x0.size : Int) > 0))))
def pantryref01_Number.j1 : Nat → ByteArray → Int → Int → Bool → Option (Int × Bool)
  | 0, _, _, _, _ => none
  | k + 1, x0, x4, x5, x21 => if x21 = true then (some (0, false)) else (if x4 < 2147483648 then (if 0 ≤ x5 then (if x5 < (x0.size : Int) then (pantryref01_Number.l0 k x0 (wrap64 ((wrap64 (10 * x4)) + (((bt x0 x5) - 48) % 256))) (wrap64 (x5 + 1))) else (none)) else (none)) else (pantryref01_Number.l0 k x0 x4 (wrap64 (x5 + 1))))
end
def pantryref01_Number.f (k : Nat) (a0 : ByteArray) : Option (Int × Bool) := pantryref01_Number.l0 k a0 0 0
theorem pantryref01_Number.mono_l : ∀ k, (∀ y0 y1 y2, LeO (pantryref01_Number.l0 k y0 y1 y2) (pantryref01_Number.l0 (k + 1) y0 y1 y2)) ∧ (∀ y0 y1 y2 y3, LeO (pantryref01_Number.j1 k y0 y1 y2 y3) (pantryref01_Number.j1 (k + 1) y0 y1 y2 y3))
  | 0 => ⟨fun _ _ _ r h => by simp [pantryref01_Number.l0] at h, fun _ _ _ _ r h => by simp [pantryref01_Number.j1] at h⟩
  | k + 1 => by
    obtain ⟨ih0, ih1⟩ := pantryref01_Number.mono_l k
    refine ⟨?_, ?_⟩
    · intro y0 y1 y2
      unfold pantryref01_Number.l0
      repeat' first
      | (with_reducible exact ih0 _ _ _)
      | (with_reducible exact ih1 _ _ _ _)
      | (with_reducible exact LeO.refl _)
      | (with_reducible exact LeO.none _)
      | (with_reducible refine LeO.ite ?_ ?_)
      | (with_reducible refine LeO.bind ?_ (fun _ => ?_))
      | exact ih0 _ _ _
      | exact ih1 _ _ _ _
      | exact LeO.none _
      | refine LeO.ite ?_ ?_
      | refine LeO.bind ?_ (fun _ => ?_)
    · intro y0 y1 y2 y3
      unfold pantryref01_Number.j1
      repeat' first
      | (with_reducible exact ih0 _ _ _)
      | (with_reducible exact ih1 _ _ _ _)
      | (with_reducible exact LeO.refl _)
      | (with_reducible exact LeO.none _)
      | (with_reducible refine LeO.ite ?_ ?_)
      | (with_reducible refine LeO.bind ?_ (fun _ => ?_))
      | exact ih0 _ _ _
      | exact ih1 _ _ _ _
      | exact LeO.none _
      | refine LeO.ite ?_ ?_
      | refine LeO.bind ?_ (fun _ => ?_)
theorem pantryref01_Number.mono : ∀ a0 k, LeO (pantryref01_Number.f k a0) (pantryref01_Number.f (k + 1) a0) := by
  intro a0 k
  obtain ⟨ih0, ih1⟩ := pantryref01_Number.mono_l k
  unfold pantryref01_Number.f
  repeat' first
      | (with_reducible exact ih0 _ _ _)
      | (with_reducible exact ih1 _ _ _ _)
      | (with_reducible exact LeO.refl _)
      | (with_reducible exact LeO.none _)
      | (with_reducible refine LeO.ite ?_ ?_)
      | (with_reducible refine LeO.bind ?_ (fun _ => ?_))
      | exact ih0 _ _ _
      | exact ih1 _ _ _ _
      | exact LeO.none _
      | refine LeO.ite ?_ ?_
      | refine LeO.bind ?_ (fun _ => ?_)
set_option maxHeartbeats 8000000 in
set_option maxRecDepth 100000 in
theorem pantryref01_Number.calls (k : Nat) (a0 : ByteArray) (r1 : Int) (r2 : Bool) (w : World) (h : pantryref01_Number.f k a0 = some (r1, r2)) :
    Calls Tryd.prog 20 #[.string a0] w fun e w' => e = .returned (.tuple #[.int .i64 r1, .bool r2]) ∧ Drawn0 w w' := by
  have H : (pantryref01_Number.l0 k a0 0 0) = some (r1, r2) := h
  clear h
  have H' := Aside0.mk H
  clear H
  go_enter Tryd.func20, Tryd.ntmps20
  go_wp2
  go_loopg [4, 5] k (fun kq v4 v5 w' => ∃ (x4_1 : Int) (x5_1 : Int), v4 = .int .i64 x4_1 ∧ v5 = .int .i64 x5_1 ∧ Aside0 (pantryref01_Number.l0 kq a0 x4_1 x5_1 = some (r1, r2)) ∧ Aside0 (kq ≤ k) ∧ Drawn0 w w')
  case atStart => exact ⟨(0), (0), (by first | rfl | (simp; done) | (simp [*]; done) | (simp [ne_nil_B, eq_nil_B]; done)), (by first | rfl | (simp; done) | (simp [*]; done) | (simp [ne_nil_B, eq_nil_B]; done)), H', ⟨Nat.le_refl _⟩, by repeat (first | exact Drawn0.refl _ | apply Drawn0.step)⟩
  case round =>
    clear H'
    obtain ⟨x4_1, x5_1, rfl, rfl, HA, HK1, ⟨m1, rfl⟩⟩ := hrel
    cases gk with
    | zero => exact absurd HA.out (by simp [pantryref01_Number.l0])
    | succ k1 =>
      have H := HA.out
      clear HA
      simp only [pantryref01_Number.l0] at H
      by_cases c2 : x5_1 < (a0.size : Int)
      · rw [if_pos c2] at H
        have c2b0 : decide (x5_1 < (a0.size : Int)) = true := decide_eq_true c2
        clear c2
        have HC3 := Aside0.mk H
        clear H
        go_upto_region 5 with (fail)
        go_cut [21] (fun v21 wc => ∃ (kq : Nat) (x21_2 : Bool), v21 = .bool x21_2 ∧ Aside0 (pantryref01_Number.j1 kq a0 x4_1 x5_1 x21_2 = some (r1, r2)) ∧ Aside0 (kq ≤ k1) ∧ Drawn0 w wc)
        case first =>
          have H := HC3.out
          clear HC3
          by_cases c4 : 0 ≤ x5_1
          · rw [if_pos c4] at H
            have c4b0 : decide (0 ≤ x5_1) = true := decide_eq_true c4
            clear c4
            (first | rw [c4b0] | (simp only [i64_w, i32_w]; rw [c4b0]) | skip)
            by_cases c6 : (bt a0 x5_1) < 48
            · rw [if_pos c6] at H
              have c6b0 : decide ((bt a0 x5_1) < 48) = true := decide_eq_true c6
              clear c6
              have H' := Aside0.mk H
              clear H
              have p5 : 0 ≤ (x5_1 : Int) := of_decide_eq_true (by first | (with_reducible assumption) | assumption)
              have q5 : x5_1 < (a0.size : Int) := of_decide_eq_true (by first | (with_reducible assumption) | assumption)
              have hx5 := bt_at a0 x5_1
              replace p5 := eq_true p5
              replace q5 := eq_true q5
              go_wp2
              go_meet
              case rel => exact ⟨_, (true), (by first | rfl | (simp; done) | (simp [*]; done) | (simp [ne_nil_B, eq_nil_B]; done)), H', ⟨by have := HK1.out; first | omega | exact Nat.le_refl _⟩, by repeat (first | exact Drawn0.refl _ | apply Drawn0.step)⟩
            · rw [if_neg c6] at H
              have c6b0 : decide ((bt a0 x5_1) < 48) = false := decide_eq_false c6
              clear c6
              have H' := Aside0.mk H
              clear H
              have p5 : 0 ≤ (x5_1 : Int) := of_decide_eq_true (by first | (with_reducible assumption) | assumption)
              have q5 : x5_1 < (a0.size : Int) := of_decide_eq_true (by first | (with_reducible assumption) | assumption)
              have hx5 := bt_at a0 x5_1
              replace p5 := eq_true p5
              replace q5 := eq_true q5
              have p7 : 0 ≤ (x5_1 : Int) := of_decide_eq_true (by first | (with_reducible assumption) | assumption)
              have q7 : x5_1 < (a0.size : Int) := of_decide_eq_true (by first | (with_reducible assumption) | assumption)
              have hx7 := bt_at a0 x5_1
              replace p7 := eq_true p7
              replace q7 := eq_true q7
              go_wp2
              go_meet
              case rel => exact ⟨_, (decide ((bt a0 x5_1) > 57)), (by first | rfl | (simp; done) | (simp [*]; done) | (simp [ne_nil_B, eq_nil_B]; done)), H', ⟨by have := HK1.out; first | omega | exact Nat.le_refl _⟩, by repeat (first | exact Drawn0.refl _ | apply Drawn0.step)⟩
          · rw [if_neg c4] at H
            exact absurd H (by simp)
        case rest =>
          clear HC3
          try clear c2
          try clear c2b0
          try clear p2
          try clear c4
          try clear c4b0
          try clear p5
          try clear q5
          try clear hx5
          try clear c6
          try clear c6b0
          try clear p7
          try clear q7
          try clear hx7
          try clear p5
          try clear p7
          try clear q5
          try clear q7
          obtain ⟨kq, x21_2, rfl, HA, HJ2, ⟨mc2, rfl⟩⟩ := hcut
          cases kq with
          | zero => exact absurd HA.out (by simp [pantryref01_Number.j1])
          | succ kj2 =>
            have H := HA.out
            clear HA
            simp only [pantryref01_Number.j1] at H
            by_cases c8 : x21_2 = true
            · subst c8
              have H1 : (some (0, false)) = some (r1, r2) := by rw [if_pos rfl] at H; exact H
              clear H
              have H := H1
              clear H1
              simp only [Option.some.injEq, Prod.mk.injEq] at H
              obtain ⟨rfl, rfl⟩ := H
              go_wp2
              go_ret2
              exact ⟨by first | rfl | (simp; done) | (simp [*]; done) | (simp [ne_nil_B, eq_nil_B]; done), by repeat (first | exact Drawn0.refl _ | apply Drawn0.step)⟩
            · replace c8 := Bool.eq_false_iff.mpr c8
              subst c8
              have H1 : (if x4_1 < 2147483648 then (if 0 ≤ x5_1 then (if x5_1 < (a0.size : Int) then (pantryref01_Number.l0 kj2 a0 (wrap64 ((wrap64 (10 * x4_1)) + (((bt a0 x5_1) - 48) % 256))) (wrap64 (x5_1 + 1))) else (none)) else (none)) else (pantryref01_Number.l0 kj2 a0 x4_1 (wrap64 (x5_1 + 1)))) = some (r1, r2) := by rw [if_neg (show ¬ (false = true) by decide)] at H; exact H
              clear H
              have H := H1
              clear H1
              by_cases c9 : x4_1 < 2147483648
              · rw [if_pos c9] at H
                have c9b0 : decide (x4_1 < 2147483648) = true := decide_eq_true c9
                clear c9
                by_cases c10 : 0 ≤ x5_1
                · rw [if_pos c10] at H
                  have c10b0 : decide (0 ≤ x5_1) = true := decide_eq_true c10
                  clear c10
                  by_cases c11 : x5_1 < (a0.size : Int)
                  · rw [if_pos c11] at H
                    have c11b0 : decide (x5_1 < (a0.size : Int)) = true := decide_eq_true c11
                    clear c11
                    have H' := Aside0.mk H
                    clear H
                    have p12 : 0 ≤ (x5_1 : Int) := of_decide_eq_true (by first | (with_reducible assumption) | assumption)
                    have q12 : x5_1 < (a0.size : Int) := of_decide_eq_true (by first | (with_reducible assumption) | assumption)
                    have hx12 := bt_at a0 x5_1
                    replace p12 := eq_true p12
                    replace q12 := eq_true q12
                    go_wp2
                    go_roundg kj2
                    case measure => have := HK1.out; have := HJ2.out; omega
                    case rel => exact ⟨(wrap64 ((wrap64 (10 * x4_1)) + (((bt a0 x5_1) - 48) % 256))), (wrap64 (x5_1 + 1)), (by first | rfl | (simp; done) | (simp [*]; done) | (simp [ne_nil_B, eq_nil_B]; done)), (by first | rfl | (simp; done) | (simp [*]; done) | (simp [ne_nil_B, eq_nil_B]; done)), H', ⟨by have := HK1.out; have := HJ2.out; omega⟩, by repeat (first | exact Drawn0.refl _ | apply Drawn0.step)⟩
                  · rw [if_neg c11] at H
                    exact absurd H (by simp)
                · rw [if_neg c10] at H
                  exact absurd H (by simp)
              · rw [if_neg c9] at H
                have c9b0 : decide (x4_1 < 2147483648) = false := decide_eq_false c9
                clear c9
                have H' := Aside0.mk H
                clear H
                go_wp2
                go_roundg kj2
                case measure => have := HK1.out; have := HJ2.out; omega
                case rel => exact ⟨(x4_1), (wrap64 (x5_1 + 1)), (by first | rfl | (simp; done) | (simp [*]; done) | (simp [ne_nil_B, eq_nil_B]; done)), (by first | rfl | (simp; done) | (simp [*]; done) | (simp [ne_nil_B, eq_nil_B]; done)), H', ⟨by have := HK1.out; have := HJ2.out; omega⟩, by repeat (first | exact Drawn0.refl _ | apply Drawn0.step)⟩
      · rw [if_neg c2] at H
        have c2b0 : decide (x5_1 < (a0.size : Int)) = false := decide_eq_false c2
        clear c2
        by_cases c13 : x4_1 > 2147483648
        · rw [if_pos c13] at H
          have c13b0 : decide (2147483648 < x4_1) = true := decide_eq_true c13
          clear c13
          simp only [Option.some.injEq, Prod.mk.injEq] at H
          obtain ⟨rfl, rfl⟩ := H
          go_wp2
          go_ret2
          exact ⟨by first | rfl | (simp; done) | (simp [*]; done) | (simp [ne_nil_B, eq_nil_B]; done), by repeat (first | exact Drawn0.refl _ | apply Drawn0.step)⟩
        · rw [if_neg c13] at H
          have c13b0 : decide (2147483648 < x4_1) = false := decide_eq_false c13
          clear c13
          simp only [Option.some.injEq, Prod.mk.injEq] at H
          obtain ⟨rfl, rfl⟩ := H
          go_wp2
          go_ret2
          exact ⟨by first | rfl | (simp; done) | (simp [*]; done) | (simp [ne_nil_B, eq_nil_B]; done), by repeat (first | exact Drawn0.refl _ | apply Drawn0.step)⟩

/-! ### pantrylaw01_SignNumbers: function 6 -/
def pantrylaw01_SignNumbers.f (k : Nat) (a0 : ByteArray) : Option (Bool) := (pantrylaw01_anchor.f k).bind fun t184 => (if t184 = true then (if (a0.size : Int) > 1000 then (some true) else ((sign_Number.f k a0).bind fun bt185 => ((pantryref01_Number.f k a0).bind fun bt187 => (if bt185.1 = bt187.1 then (if (bt185.2 == bt187.2) = true then (if bt185.1 ≥ 0 then (some (decide (bt185.1 ≤ 2147483648))) else (some false)) else (some false)) else (some false))))) else (some false))
theorem pantrylaw01_SignNumbers.mono : ∀ a0 k, LeO (pantrylaw01_SignNumbers.f k a0) (pantrylaw01_SignNumbers.f (k + 1) a0) := by
  intro a0 k
  unfold pantrylaw01_SignNumbers.f
  repeat' first
      | (with_reducible exact pantrylaw01_anchor.mono _)
      | (with_reducible exact pantryref01_Number.mono _ _)
      | (with_reducible exact sign_Number.mono _ _)
      | (with_reducible exact LeO.refl _)
      | (with_reducible exact LeO.none _)
      | (with_reducible refine LeO.ite ?_ ?_)
      | (with_reducible refine LeO.bind ?_ (fun _ => ?_))
      | exact pantrylaw01_anchor.mono _
      | exact pantryref01_Number.mono _ _
      | exact sign_Number.mono _ _
      | exact LeO.none _
      | refine LeO.ite ?_ ?_
      | refine LeO.bind ?_ (fun _ => ?_)
set_option maxHeartbeats 8000000 in
set_option maxRecDepth 100000 in
theorem pantrylaw01_SignNumbers.calls (k : Nat) (a0 : ByteArray) (r : Bool) (w : World) (h : pantrylaw01_SignNumbers.f k a0 = some r) :
    Calls Tryd.prog 6 #[.string a0] w fun e w' => e = .returned (.bool r) ∧ Below w.heap.size w w' := by
  have HB := Aside0.mk (Below.refl w.heap.size w)
  have H : ((pantrylaw01_anchor.f k).bind fun t184 => (if t184 = true then (if (a0.size : Int) > 1000 then (some true) else ((sign_Number.f k a0).bind fun bt185 => ((pantryref01_Number.f k a0).bind fun bt187 => (if bt185.1 = bt187.1 then (if (bt185.2 == bt187.2) = true then (if bt185.1 ≥ 0 then (some (decide (bt185.1 ≤ 2147483648))) else (some false)) else (some false)) else (some false))))) else (some false))) = some r := h
  clear h
  replace H := Option.bind_eq_some_iff.mp H
  obtain ⟨t184, A20, H⟩ := H
  replace H : (if t184 = true then (if (a0.size : Int) > 1000 then (some true) else ((sign_Number.f k a0).bind fun bt185 => ((pantryref01_Number.f k a0).bind fun bt187 => (if bt185.1 = bt187.1 then (if (bt185.2 == bt187.2) = true then (if bt185.1 ≥ 0 then (some (decide (bt185.1 ≤ 2147483648))) else (some false)) else (some false)) else (some false))))) else (some false)) = some r := H
  have A2 := Aside0.mk A20
  clear A20
  by_cases c3 : t184 = true
  · subst c3
    have H1 : (if (a0.size : Int) > 1000 then (some true) else ((sign_Number.f k a0).bind fun bt185 => ((pantryref01_Number.f k a0).bind fun bt187 => (if bt185.1 = bt187.1 then (if (bt185.2 == bt187.2) = true then (if bt185.1 ≥ 0 then (some (decide (bt185.1 ≤ 2147483648))) else (some false)) else (some false)) else (some false))))) = some r := by rw [if_pos rfl] at H; exact H
    clear H
    have H := H1
    clear H1
    by_cases c4 : (a0.size : Int) > 1000
    · rw [if_pos c4] at H
      have c4b0 : decide (1000 < (a0.size : Int)) = true := decide_eq_true c4
      have c4b1 : decide (1000 < a0.size) = true := decide_eq_true (by omega)
      clear c4
      obtain rfl := Option.some.inj H
      go_enter Tryd.func6, Tryd.ntmps6
      go_wp2_with (first | ((with_reducible refine gate_callee (f := 11) rfl ?_); refine goesL_ (some 7) rfl rfl Tryd.func11 (by kernel_rfl) rfl #[] rfl (by (try simp only [List.map_toArray, List.map_cons, List.map_nil]); first | done | rfl | (simp only [List.length_drop, List.length_take]; rfl)) ?_; (with_reducible refine (pantrylaw01_anchor.calls k  true _ A2.out).mono ?_); rintro e w5 ⟨rfl, hb⟩; refine ⟨_, rfl, ?_⟩; have n0_ := Aside0.mk (below_step (by repeat (first | (with_reducible first | exact HB.out | apply below_alloc | apply pw_below_drewN | apply below_drew1) | exact HB.out)) hb); clear HB; have HB := n0_; clear n0_; (try clear hb); (try clear hb2); (try clear hk); (try clear hi)))
      go_ret
      exact ⟨by first | rfl | (simp [errW_none, errW_some] <;> rfl) | (simp [*, errW_none, errW_some] <;> rfl) | (simp [ne_nil_B, eq_nil_B, errW_none, errW_some]; done) | (simp [ne_nil_B, eq_nil_B, errW_none, errW_some] <;> rfl), by repeat (first | (with_reducible first | exact HB.out | apply below_alloc | apply pw_below_drewN | apply below_drew1) | exact HB.out)⟩
    · rw [if_neg c4] at H
      have c4b0 : decide (1000 < (a0.size : Int)) = false := decide_eq_false c4
      have c4b1 : decide (1000 < a0.size) = false := decide_eq_false (by omega)
      clear c4
      replace H := Option.bind_eq_some_iff.mp H
      obtain ⟨⟨t185, t186⟩, A60, H⟩ := H
      replace H : ((pantryref01_Number.f k a0).bind fun bt187 => (if t185 = bt187.1 then (if (t186 == bt187.2) = true then (if t185 ≥ 0 then (some (decide (t185 ≤ 2147483648))) else (some false)) else (some false)) else (some false))) = some r := H
      have A6 := Aside0.mk A60
      clear A60
      replace H := Option.bind_eq_some_iff.mp H
      obtain ⟨⟨t187, t188⟩, A70, H⟩ := H
      replace H : (if t185 = t187 then (if (t186 == t188) = true then (if t185 ≥ 0 then (some (decide (t185 ≤ 2147483648))) else (some false)) else (some false)) else (some false)) = some r := H
      have A7 := Aside0.mk A70
      clear A70
      by_cases c8 : t185 = t187
      · rw [if_pos c8] at H
        have c8b0 : (t185 == t187) = true := beq_iff_eq.mpr c8
        have c8b1 : (t185 != t187) = false := bne_eq_false_iff_eq.mpr c8
        clear c8
        by_cases c9 : (t186 == t188) = true
        · rw [if_pos c9] at H
          have c9b0 : (t186 == t188) = true := c9
          (try (have c9b1 : decide (t186 = t188) = true := by simpa using c9))
          (try (have c9b2 : (t186 == t188) = true := by simpa using c9))
          clear c9
          by_cases c10 : t185 ≥ 0
          · rw [if_pos c10] at H
            have c10b0 : decide (0 ≤ t185) = true := decide_eq_true c10
            clear c10
            obtain rfl := Option.some.inj H
            go_enter Tryd.func6, Tryd.ntmps6
            go_wp2_with (first | ((with_reducible refine gate_callee (f := 11) rfl ?_); refine goesL_ (some 7) rfl rfl Tryd.func11 (by kernel_rfl) rfl #[] rfl (by (try simp only [List.map_toArray, List.map_cons, List.map_nil]); first | done | rfl | (simp only [List.length_drop, List.length_take]; rfl)) ?_; (with_reducible refine (pantrylaw01_anchor.calls k  true _ A2.out).mono ?_); rintro e w11 ⟨rfl, hb⟩; refine ⟨_, rfl, ?_⟩; have n0_ := Aside0.mk (below_step (by repeat (first | (with_reducible first | exact HB.out | apply below_alloc | apply pw_below_drewN | apply below_drew1) | exact HB.out)) hb); clear HB; have HB := n0_; clear n0_; (try clear hb); (try clear hb2); (try clear hk); (try clear hi)) | ((with_reducible refine gate_callee (f := 19) rfl ?_); refine goesL_ (some 14) rfl rfl Tryd.func19 (by kernel_rfl) rfl #[.string a0] rfl (by (try simp only [List.map_toArray, List.map_cons, List.map_nil]); first | done | rfl | (simp only [List.length_drop, List.length_take]; rfl)) ?_; (with_reducible refine (sign_Number.calls k a0 t185 t186 _ A6.out).mono ?_); rintro e w12 ⟨rfl, hb⟩; refine ⟨_, rfl, ?_⟩; have n0_ := Aside0.mk (below_step (by repeat (first | (with_reducible first | exact HB.out | apply below_alloc | apply pw_below_drewN | apply below_drew1) | exact HB.out)) hb); clear HB; have HB := n0_; clear n0_; (try clear hb); (try clear hb2); (try clear hk); (try clear hi)) | ((with_reducible refine gate_callee (f := 20) rfl ?_); refine goesL_ (some 19) rfl rfl Tryd.func20 (by kernel_rfl) rfl #[.string a0] rfl (by (try simp only [List.map_toArray, List.map_cons, List.map_nil]); first | done | rfl | (simp only [List.length_drop, List.length_take]; rfl)) ?_; (with_reducible refine (pantryref01_Number.calls k a0 t187 t188 _ A7.out).mono ?_); rintro e w' ⟨rfl, ⟨nd, rfl⟩⟩; refine ⟨_, rfl, ?_⟩))
            go_ret
            exact ⟨by first | rfl | (simp [errW_none, errW_some] <;> rfl) | (simp [*, errW_none, errW_some] <;> rfl) | (simp [ne_nil_B, eq_nil_B, errW_none, errW_some]; done) | (simp [ne_nil_B, eq_nil_B, errW_none, errW_some] <;> rfl), by repeat (first | (with_reducible first | exact HB.out | apply below_alloc | apply pw_below_drewN | apply below_drew1) | exact HB.out)⟩
          · rw [if_neg c10] at H
            have c10b0 : decide (0 ≤ t185) = false := decide_eq_false c10
            clear c10
            obtain rfl := Option.some.inj H
            go_enter Tryd.func6, Tryd.ntmps6
            go_wp2_with (first | ((with_reducible refine gate_callee (f := 11) rfl ?_); refine goesL_ (some 7) rfl rfl Tryd.func11 (by kernel_rfl) rfl #[] rfl (by (try simp only [List.map_toArray, List.map_cons, List.map_nil]); first | done | rfl | (simp only [List.length_drop, List.length_take]; rfl)) ?_; (with_reducible refine (pantrylaw01_anchor.calls k  true _ A2.out).mono ?_); rintro e w13 ⟨rfl, hb⟩; refine ⟨_, rfl, ?_⟩; have n0_ := Aside0.mk (below_step (by repeat (first | (with_reducible first | exact HB.out | apply below_alloc | apply pw_below_drewN | apply below_drew1) | exact HB.out)) hb); clear HB; have HB := n0_; clear n0_; (try clear hb); (try clear hb2); (try clear hk); (try clear hi)) | ((with_reducible refine gate_callee (f := 19) rfl ?_); refine goesL_ (some 14) rfl rfl Tryd.func19 (by kernel_rfl) rfl #[.string a0] rfl (by (try simp only [List.map_toArray, List.map_cons, List.map_nil]); first | done | rfl | (simp only [List.length_drop, List.length_take]; rfl)) ?_; (with_reducible refine (sign_Number.calls k a0 t185 t186 _ A6.out).mono ?_); rintro e w14 ⟨rfl, hb⟩; refine ⟨_, rfl, ?_⟩; have n0_ := Aside0.mk (below_step (by repeat (first | (with_reducible first | exact HB.out | apply below_alloc | apply pw_below_drewN | apply below_drew1) | exact HB.out)) hb); clear HB; have HB := n0_; clear n0_; (try clear hb); (try clear hb2); (try clear hk); (try clear hi)) | ((with_reducible refine gate_callee (f := 20) rfl ?_); refine goesL_ (some 19) rfl rfl Tryd.func20 (by kernel_rfl) rfl #[.string a0] rfl (by (try simp only [List.map_toArray, List.map_cons, List.map_nil]); first | done | rfl | (simp only [List.length_drop, List.length_take]; rfl)) ?_; (with_reducible refine (pantryref01_Number.calls k a0 t187 t188 _ A7.out).mono ?_); rintro e w' ⟨rfl, ⟨nd, rfl⟩⟩; refine ⟨_, rfl, ?_⟩))
            go_ret
            exact ⟨by first | rfl | (simp [errW_none, errW_some] <;> rfl) | (simp [*, errW_none, errW_some] <;> rfl) | (simp [ne_nil_B, eq_nil_B, errW_none, errW_some]; done) | (simp [ne_nil_B, eq_nil_B, errW_none, errW_some] <;> rfl), by repeat (first | (with_reducible first | exact HB.out | apply below_alloc | apply pw_below_drewN | apply below_drew1) | exact HB.out)⟩
        · rw [if_neg c9] at H
          have c9b0 : (t186 == t188) = false := by simpa using c9
          (try (have c9b1 : decide (t186 = t188) = false := by simpa using c9))
          (try (have c9b2 : (t186 == t188) = false := by simpa using c9))
          (try (have c9b3 : ¬ (t186 = t188) := by simpa using c9))
          clear c9
          obtain rfl := Option.some.inj H
          go_enter Tryd.func6, Tryd.ntmps6
          go_wp2_with (first | ((with_reducible refine gate_callee (f := 11) rfl ?_); refine goesL_ (some 7) rfl rfl Tryd.func11 (by kernel_rfl) rfl #[] rfl (by (try simp only [List.map_toArray, List.map_cons, List.map_nil]); first | done | rfl | (simp only [List.length_drop, List.length_take]; rfl)) ?_; (with_reducible refine (pantrylaw01_anchor.calls k  true _ A2.out).mono ?_); rintro e w15 ⟨rfl, hb⟩; refine ⟨_, rfl, ?_⟩; have n0_ := Aside0.mk (below_step (by repeat (first | (with_reducible first | exact HB.out | apply below_alloc | apply pw_below_drewN | apply below_drew1) | exact HB.out)) hb); clear HB; have HB := n0_; clear n0_; (try clear hb); (try clear hb2); (try clear hk); (try clear hi)) | ((with_reducible refine gate_callee (f := 19) rfl ?_); refine goesL_ (some 14) rfl rfl Tryd.func19 (by kernel_rfl) rfl #[.string a0] rfl (by (try simp only [List.map_toArray, List.map_cons, List.map_nil]); first | done | rfl | (simp only [List.length_drop, List.length_take]; rfl)) ?_; (with_reducible refine (sign_Number.calls k a0 t185 t186 _ A6.out).mono ?_); rintro e w16 ⟨rfl, hb⟩; refine ⟨_, rfl, ?_⟩; have n0_ := Aside0.mk (below_step (by repeat (first | (with_reducible first | exact HB.out | apply below_alloc | apply pw_below_drewN | apply below_drew1) | exact HB.out)) hb); clear HB; have HB := n0_; clear n0_; (try clear hb); (try clear hb2); (try clear hk); (try clear hi)) | ((with_reducible refine gate_callee (f := 20) rfl ?_); refine goesL_ (some 19) rfl rfl Tryd.func20 (by kernel_rfl) rfl #[.string a0] rfl (by (try simp only [List.map_toArray, List.map_cons, List.map_nil]); first | done | rfl | (simp only [List.length_drop, List.length_take]; rfl)) ?_; (with_reducible refine (pantryref01_Number.calls k a0 t187 t188 _ A7.out).mono ?_); rintro e w' ⟨rfl, ⟨nd, rfl⟩⟩; refine ⟨_, rfl, ?_⟩))
          go_ret
          exact ⟨by first | rfl | (simp [errW_none, errW_some] <;> rfl) | (simp [*, errW_none, errW_some] <;> rfl) | (simp [ne_nil_B, eq_nil_B, errW_none, errW_some]; done) | (simp [ne_nil_B, eq_nil_B, errW_none, errW_some] <;> rfl), by repeat (first | (with_reducible first | exact HB.out | apply below_alloc | apply pw_below_drewN | apply below_drew1) | exact HB.out)⟩
      · rw [if_neg c8] at H
        have c8b0 : (t185 == t187) = false := beq_eq_false_iff_ne.mpr c8
        have c8b1 : (t185 != t187) = true := bne_iff_ne.mpr c8
        obtain rfl := Option.some.inj H
        go_enter Tryd.func6, Tryd.ntmps6
        go_wp2_with (first | ((with_reducible refine gate_callee (f := 11) rfl ?_); refine goesL_ (some 7) rfl rfl Tryd.func11 (by kernel_rfl) rfl #[] rfl (by (try simp only [List.map_toArray, List.map_cons, List.map_nil]); first | done | rfl | (simp only [List.length_drop, List.length_take]; rfl)) ?_; (with_reducible refine (pantrylaw01_anchor.calls k  true _ A2.out).mono ?_); rintro e w17 ⟨rfl, hb⟩; refine ⟨_, rfl, ?_⟩; have n0_ := Aside0.mk (below_step (by repeat (first | (with_reducible first | exact HB.out | apply below_alloc | apply pw_below_drewN | apply below_drew1) | exact HB.out)) hb); clear HB; have HB := n0_; clear n0_; (try clear hb); (try clear hb2); (try clear hk); (try clear hi)) | ((with_reducible refine gate_callee (f := 19) rfl ?_); refine goesL_ (some 14) rfl rfl Tryd.func19 (by kernel_rfl) rfl #[.string a0] rfl (by (try simp only [List.map_toArray, List.map_cons, List.map_nil]); first | done | rfl | (simp only [List.length_drop, List.length_take]; rfl)) ?_; (with_reducible refine (sign_Number.calls k a0 t185 t186 _ A6.out).mono ?_); rintro e w18 ⟨rfl, hb⟩; refine ⟨_, rfl, ?_⟩; have n0_ := Aside0.mk (below_step (by repeat (first | (with_reducible first | exact HB.out | apply below_alloc | apply pw_below_drewN | apply below_drew1) | exact HB.out)) hb); clear HB; have HB := n0_; clear n0_; (try clear hb); (try clear hb2); (try clear hk); (try clear hi)) | ((with_reducible refine gate_callee (f := 20) rfl ?_); refine goesL_ (some 19) rfl rfl Tryd.func20 (by kernel_rfl) rfl #[.string a0] rfl (by (try simp only [List.map_toArray, List.map_cons, List.map_nil]); first | done | rfl | (simp only [List.length_drop, List.length_take]; rfl)) ?_; (with_reducible refine (pantryref01_Number.calls k a0 t187 t188 _ A7.out).mono ?_); rintro e w' ⟨rfl, ⟨nd, rfl⟩⟩; refine ⟨_, rfl, ?_⟩))
        go_ret
        exact ⟨by first | rfl | (simp [errW_none, errW_some] <;> rfl) | (simp [*, errW_none, errW_some] <;> rfl) | (simp [ne_nil_B, eq_nil_B, errW_none, errW_some]; done) | (simp [ne_nil_B, eq_nil_B, errW_none, errW_some] <;> rfl), by repeat (first | (with_reducible first | exact HB.out | apply below_alloc | apply pw_below_drewN | apply below_drew1) | exact HB.out)⟩
  · replace c3 := Bool.eq_false_iff.mpr c3
    subst c3
    have H1 : (some false) = some r := by rw [if_neg (show ¬ (false = true) by decide)] at H; exact H
    clear H
    have H := H1
    clear H1
    obtain rfl := Option.some.inj H
    go_enter Tryd.func6, Tryd.ntmps6
    go_wp2_with (first | ((with_reducible refine gate_callee (f := 11) rfl ?_); refine goesL_ (some 7) rfl rfl Tryd.func11 (by kernel_rfl) rfl #[] rfl (by (try simp only [List.map_toArray, List.map_cons, List.map_nil]); first | done | rfl | (simp only [List.length_drop, List.length_take]; rfl)) ?_; (with_reducible refine (pantrylaw01_anchor.calls k  false _ A2.out).mono ?_); rintro e w19 ⟨rfl, hb⟩; refine ⟨_, rfl, ?_⟩; have n0_ := Aside0.mk (below_step (by repeat (first | (with_reducible first | exact HB.out | apply below_alloc | apply pw_below_drewN | apply below_drew1) | exact HB.out)) hb); clear HB; have HB := n0_; clear n0_; (try clear hb); (try clear hb2); (try clear hk); (try clear hi)))
    go_ret
    exact ⟨by first | rfl | (simp [errW_none, errW_some] <;> rfl) | (simp [*, errW_none, errW_some] <;> rfl) | (simp [ne_nil_B, eq_nil_B, errW_none, errW_some]; done) | (simp [ne_nil_B, eq_nil_B, errW_none, errW_some] <;> rfl), by repeat (first | (with_reducible first | exact HB.out | apply below_alloc | apply pw_below_drewN | apply below_drew1) | exact HB.out)⟩

end Go.Proofs.YtnbgffndhkgdpaaDoor.P
