import Derived.Test.YtgkgljendffhlaaDoorZPlaceReadsPx0
namespace Go.Proofs.YtgkgljendffhlaaDoor.P
open Go.RowKit Go.Proofs.YtgkgljendffhlaaDoorW.PrintWords Go.Proofs.YtgkgljendffhlaaDoorW.PrintLast Go.Proofs.YtgkgljendffhlaaDoorW.PrintMore
attribute [local go_sem] max2_int min2_int max_two min_two max_three min_three max_four min_four u8_div16 u8_mod16
set_option linter.unusedVariables false
set_option linter.unusedSimpArgs false
/-! ### pantryref08_apart: function 24 -/
def pantryref08_apart.l0 : Nat → ByteArray → Int → Option (ByteArray × ByteArray)
 | 0, _, _ => none
 | k + 1, x0, x4 => if x4 < (x0.size : Int) then (if 0 ≤ x4 then (if (bt x0 x4) = 47 then (if x4 ≤ (x0.size : Int) then (if (x0.extract (x4 : Int).toNat x0.size).toList = ([] : List UInt8) then (if 1 + (x0.extract (x4 : Int).toNat x0.size).size ≤ 9223372036854775807 then (some (x0.extract 0 (x4 : Int).toNat, (⟨#[47]⟩ : ByteArray) ++ (x0.extract (x4 : Int).toNat x0.size))) else (none)) else (if 0 < ((x0.extract (x4 : Int).toNat x0.size).size : Int) then (if (bt (x0.extract (x4 : Int).toNat x0.size) 0) = 63 then (if 1 + (x0.extract (x4 : Int).toNat x0.size).size ≤ 9223372036854775807 then (some (x0.extract 0 (x4 : Int).toNat, (⟨#[47]⟩ : ByteArray) ++ (x0.extract (x4 : Int).toNat x0.size))) else (none)) else (some (x0.extract 0 (x4 : Int).toNat, x0.extract (x4 : Int).toNat x0.size))) else (none))) else (none)) else (if (bt x0 x4) = 63 then (if x4 ≤ (x0.size : Int) then (if (x0.extract (x4 : Int).toNat x0.size).toList = ([] : List UInt8) then (if 1 + (x0.extract (x4 : Int).toNat x0.size).size ≤ 9223372036854775807 then (some (x0.extract 0 (x4 : Int).toNat, (⟨#[47]⟩ : ByteArray) ++ (x0.extract (x4 : Int).toNat x0.size))) else (none)) else (if 0 < ((x0.extract (x4 : Int).toNat x0.size).size : Int) then (if (bt (x0.extract (x4 : Int).toNat x0.size) 0) = 63 then (if 1 + (x0.extract (x4 : Int).toNat x0.size).size ≤ 9223372036854775807 then (some (x0.extract 0 (x4 : Int).toNat, (⟨#[47]⟩ : ByteArray) ++ (x0.extract (x4 : Int).toNat x0.size))) else (none)) else (some (x0.extract 0 (x4 : Int).toNat, x0.extract (x4 : Int).toNat x0.size))) else (none))) else (none)) else (pantryref08_apart.l0 k x0 (wrap64 (x4 + 1))))) else (none)) else (if 0 ≤ x4 then (if x4 ≤ (x0.size : Int) then (if (x0.extract (x4 : Int).toNat x0.size).toList = ([] : List UInt8) then (if 1 + (x0.extract (x4 : Int).toNat x0.size).size ≤ 9223372036854775807 then (some (x0.extract 0 (x4 : Int).toNat, (⟨#[47]⟩ : ByteArray) ++ (x0.extract (x4 : Int).toNat x0.size))) else (none)) else (if 0 < ((x0.extract (x4 : Int).toNat x0.size).size : Int) then (if (bt (x0.extract (x4 : Int).toNat x0.size) 0) = 63 then (if 1 + (x0.extract (x4 : Int).toNat x0.size).size ≤ 9223372036854775807 then (some (x0.extract 0 (x4 : Int).toNat, (⟨#[47]⟩ : ByteArray) ++ (x0.extract (x4 : Int).toNat x0.size))) else (none)) else (some (x0.extract 0 (x4 : Int).toNat, x0.extract (x4 : Int).toNat x0.size))) else (none))) else (none)) else (none))
def pantryref08_apart.f (k : Nat) (a0 : ByteArray) : Option (ByteArray × ByteArray) := pantryref08_apart.l0 k a0 0
set_option maxHeartbeats 8000000 in
set_option maxRecDepth 100000 in
theorem pantryref08_apart.calls (k : Nat) (a0 : ByteArray) (r1 : ByteArray) (r2 : ByteArray) (w : World) (h : pantryref08_apart.f k a0 = some (r1, r2)) :
  Calls Tryd.prog 24 #[.string a0] w fun e w' => e = .returned (.tuple #[.string r1, .string r2]) ∧ Drawn0 w w' := by
 have H : (pantryref08_apart.l0 k a0 0) = some (r1, r2) := h
 clear h
 have H' := Aside0.mk H
 clear H
 go_enter Tryd.func24, Tryd.ntmps24
 go_wp2
 go_loopg [4] k (fun kq v4 w' => ∃ (x4_1 : Int), v4 = .int .i64 x4_1 ∧ Aside0 (pantryref08_apart.l0 kq a0 x4_1 = some (r1, r2)) ∧ Aside0 (kq ≤ k) ∧ Drawn0 w w')
 case atStart => exact ⟨(0), (by first | rfl | (simp; done) | (simp [*]; done) | (simp [ne_nil_B, eq_nil_B]; done)), H', ⟨Nat.le_refl _⟩, by repeat (first | exact Drawn0.refl _ | apply Drawn0.step)⟩
 case round =>
  clear H'
  obtain ⟨x4_1, rfl, HA, HK1, ⟨m1, rfl⟩⟩ := hrel
  cases gk with
  | zero => exact absurd HA.out (by simp [pantryref08_apart.l0])
  | succ k1 =>
   have H := HA.out
   clear HA
   simp only [pantryref08_apart.l0] at H
   by_cases c2 : x4_1 < (a0.size : Int)
   ·rw [if_pos c2] at H
    have c2b0 : decide (x4_1 < (a0.size : Int)) = true := decide_eq_true c2
    clear c2
    by_cases c3 : 0 ≤ x4_1
    ·rw [if_pos c3] at H
     have c3b0 : decide (0 ≤ x4_1) = true := decide_eq_true c3
     clear c3
     by_cases c5 : (bt a0 x4_1) = 47
     ·rw [if_pos c5] at H
      have c5b0 : ((bt a0 x4_1) == 47) = true := beq_iff_eq.mpr c5
      have c5b1 : ((bt a0 x4_1) != 47) = false := bne_eq_false_iff_eq.mpr c5
      clear c5
      have c6b0 := eq_true (of_decide_eq_true (by assumption) : 0 ≤ x4_1)
      by_cases c7 : x4_1 ≤ (a0.size : Int)
      ·rw [if_pos c7] at H
       have c7b0 := eq_true c7
       have c7b1 : decide (x4_1 ≤ (a0.size : Int)) = true := decide_eq_true c7
       clear c7
       generalize hgw1 : (a0.extract (x4_1 : Int).toNat a0.size) = gw1 at *
       by_cases c8 : gw1.toList = ([] : List UInt8)
       ·rw [if_pos c8] at H
        have c8b0 : (gw1.toList == ([] : List UInt8)) = true := beq_iff_eq.mpr c8
        have c8b1 : (gw1.toList != ([] : List UInt8)) = false := bne_eq_false_iff_eq.mpr c8
        clear c8
        by_cases c9 : 1 + gw1.size ≤ 9223372036854775807
        ·rw [if_pos c9] at H
         have c9b0 := eq_true c9
         have c9b1 : decide (1 + gw1.size ≤ 9223372036854775807) = true := decide_eq_true c9
         try have c9b2 : (9223372036854775807 < 1 + gw1.size) = False := eq_false (Nat.not_lt.2 c9)
         try (have c9b3 := c9b2; simp only [ByteArray.size_extract, ByteArray.size_append, Nat.min_self, Nat.sub_zero] at c9b3)
         have c10b0 := eq_true (of_decide_eq_true (by assumption) : 0 ≤ x4_1)
         have c11b0 := eq_true (of_decide_eq_true (by assumption) : x4_1 ≤ (a0.size : Int))
         simp only [Option.some.injEq, Prod.mk.injEq] at H
         obtain ⟨rfl, rfl⟩ := H
         have p4 : 0 ≤ (x4_1 : Int) := of_decide_eq_true (by assumption)
         have q4 : x4_1 < (a0.size : Int) := of_decide_eq_true (by assumption)
         have hx4 := bt_at a0 x4_1
         replace p4 := eq_true p4
         replace q4 := eq_true q4
         go_wp2
         go_ret2
         exact ⟨by first | rfl | (simp; done) | (simp [*]; done) | (simp [ne_nil_B, eq_nil_B]; done), by repeat (first | exact Drawn0.refl _ | apply Drawn0.step)⟩
        ·rw [if_neg c9] at H
         exact absurd H (by simp)
       ·rw [if_neg c8] at H
        have c8b0 : (gw1.toList == ([] : List UInt8)) = false := beq_eq_false_iff_ne.mpr c8
        have c8b1 : (gw1.toList != ([] : List UInt8)) = true := bne_iff_ne.mpr c8
        by_cases c12 : 0 < (gw1.size : Int)
        ·rw [if_pos c12] at H
         have c12b0 : decide (0 < (gw1.size : Int)) = true := decide_eq_true c12
         have c12b1 : decide (0 < gw1.size) = true := decide_eq_true (by omega)
         clear c12
         by_cases c14 : (bt gw1 0) = 63
         ·rw [if_pos c14] at H
          have c14b0 : ((bt gw1 0) == 63) = true := beq_iff_eq.mpr c14
          have c14b1 : ((bt gw1 0) != 63) = false := bne_eq_false_iff_eq.mpr c14
          clear c14
          by_cases c15 : 1 + gw1.size ≤ 9223372036854775807
          ·rw [if_pos c15] at H
           have c15b0 := eq_true c15
           have c15b1 : decide (1 + gw1.size ≤ 9223372036854775807) = true := decide_eq_true c15
           try have c15b2 : (9223372036854775807 < 1 + gw1.size) = False := eq_false (Nat.not_lt.2 c15)
           try (have c15b3 := c15b2; simp only [ByteArray.size_extract, ByteArray.size_append, Nat.min_self, Nat.sub_zero] at c15b3)
           have c16b0 := eq_true (of_decide_eq_true (by assumption) : 0 ≤ x4_1)
           have c17b0 := eq_true (of_decide_eq_true (by assumption) : x4_1 ≤ (a0.size : Int))
           simp only [Option.some.injEq, Prod.mk.injEq] at H
           obtain ⟨rfl, rfl⟩ := H
           have p4 : 0 ≤ (x4_1 : Int) := of_decide_eq_true (by assumption)
           have q4 : x4_1 < (a0.size : Int) := of_decide_eq_true (by assumption)
           have hx4 := bt_at a0 x4_1
           replace p4 := eq_true p4
           replace q4 := eq_true q4
           have p13 : 0 ≤ (0 : Int) := (by omega)
           have q13 : 0 < gw1.size := (by have : (0 : Int) < (gw1.size : Int) := of_decide_eq_true (by assumption); omega)
           have hx13 : ∀ h : 0 < gw1.size, ((gw1[0]'h).toNat : Int) = bt gw1 0 := bt_at gw1 0
           clear p13
           have qi13 : (0 < (gw1.size : Int)) = True := eq_true (of_decide_eq_true (by assumption))
           replace q13 := eq_true q13
           go_wp2
           go_ret2
           exact ⟨by first | rfl | (simp; done) | (simp [*]; done) | (simp [ne_nil_B, eq_nil_B]; done), by repeat (first | exact Drawn0.refl _ | apply Drawn0.step)⟩
          ·rw [if_neg c15] at H
           exact absurd H (by simp)
         ·rw [if_neg c14] at H
          have c14b0 : ((bt gw1 0) == 63) = false := beq_eq_false_iff_ne.mpr c14
          have c14b1 : ((bt gw1 0) != 63) = true := bne_iff_ne.mpr c14
          have c18b0 := eq_true (of_decide_eq_true (by assumption) : 0 ≤ x4_1)
          have c19b0 := eq_true (of_decide_eq_true (by assumption) : x4_1 ≤ (a0.size : Int))
          simp only [Option.some.injEq, Prod.mk.injEq] at H
          obtain ⟨rfl, rfl⟩ := H
          have p4 : 0 ≤ (x4_1 : Int) := of_decide_eq_true (by assumption)
          have q4 : x4_1 < (a0.size : Int) := of_decide_eq_true (by assumption)
          have hx4 := bt_at a0 x4_1
          replace p4 := eq_true p4
          replace q4 := eq_true q4
          have p13 : 0 ≤ (0 : Int) := (by omega)
          have q13 : 0 < gw1.size := (by have : (0 : Int) < (gw1.size : Int) := of_decide_eq_true (by assumption); omega)
          have hx13 : ∀ h : 0 < gw1.size, ((gw1[0]'h).toNat : Int) = bt gw1 0 := bt_at gw1 0
          clear p13
          have qi13 : (0 < (gw1.size : Int)) = True := eq_true (of_decide_eq_true (by assumption))
          replace q13 := eq_true q13
          go_wp2
          go_ret2
          exact ⟨by first | rfl | (simp; done) | (simp [*]; done) | (simp [ne_nil_B, eq_nil_B]; done), by repeat (first | exact Drawn0.refl _ | apply Drawn0.step)⟩
        ·rw [if_neg c12] at H
         exact absurd H (by simp)
      ·rw [if_neg c7] at H
       exact absurd H (by simp)
     ·rw [if_neg c5] at H
      have c5b0 : ((bt a0 x4_1) == 47) = false := beq_eq_false_iff_ne.mpr c5
      have c5b1 : ((bt a0 x4_1) != 47) = true := bne_iff_ne.mpr c5
      by_cases c21 : (bt a0 x4_1) = 63
      ·rw [if_pos c21] at H
       have c21b0 : ((bt a0 x4_1) == 63) = true := beq_iff_eq.mpr c21
       have c21b1 : ((bt a0 x4_1) != 63) = false := bne_eq_false_iff_eq.mpr c21
       clear c21
       have c22b0 := eq_true (of_decide_eq_true (by assumption) : 0 ≤ x4_1)
       by_cases c23 : x4_1 ≤ (a0.size : Int)
       ·rw [if_pos c23] at H
        have c23b0 := eq_true c23
        have c23b1 : decide (x4_1 ≤ (a0.size : Int)) = true := decide_eq_true c23
        clear c23
        generalize hgw2 : (a0.extract (x4_1 : Int).toNat a0.size) = gw2 at *
        by_cases c24 : gw2.toList = ([] : List UInt8)
        ·rw [if_pos c24] at H
         have c24b0 : (gw2.toList == ([] : List UInt8)) = true := beq_iff_eq.mpr c24
         have c24b1 : (gw2.toList != ([] : List UInt8)) = false := bne_eq_false_iff_eq.mpr c24
         clear c24
         by_cases c25 : 1 + gw2.size ≤ 9223372036854775807
         ·rw [if_pos c25] at H
          have c25b0 := eq_true c25
          have c25b1 : decide (1 + gw2.size ≤ 9223372036854775807) = true := decide_eq_true c25
          try have c25b2 : (9223372036854775807 < 1 + gw2.size) = False := eq_false (Nat.not_lt.2 c25)
          try (have c25b3 := c25b2; simp only [ByteArray.size_extract, ByteArray.size_append, Nat.min_self, Nat.sub_zero] at c25b3)
          have c26b0 := eq_true (of_decide_eq_true (by assumption) : 0 ≤ x4_1)
          have c27b0 := eq_true (of_decide_eq_true (by assumption) : x4_1 ≤ (a0.size : Int))
          simp only [Option.some.injEq, Prod.mk.injEq] at H
          obtain ⟨rfl, rfl⟩ := H
          have p4 : 0 ≤ (x4_1 : Int) := of_decide_eq_true (by assumption)
          have q4 : x4_1 < (a0.size : Int) := of_decide_eq_true (by assumption)
          have hx4 := bt_at a0 x4_1
          replace p4 := eq_true p4
          replace q4 := eq_true q4
          have p20 : 0 ≤ (x4_1 : Int) := of_decide_eq_true (by assumption)
          have q20 : x4_1 < (a0.size : Int) := of_decide_eq_true (by assumption)
          have hx20 := bt_at a0 x4_1
          replace p20 := eq_true p20
          replace q20 := eq_true q20
          go_wp2
          go_ret2
          exact ⟨by first | rfl | (simp; done) | (simp [*]; done) | (simp [ne_nil_B, eq_nil_B]; done), by repeat (first | exact Drawn0.refl _ | apply Drawn0.step)⟩
         ·rw [if_neg c25] at H
          exact absurd H (by simp)
        ·rw [if_neg c24] at H
         have c24b0 : (gw2.toList == ([] : List UInt8)) = false := beq_eq_false_iff_ne.mpr c24
         have c24b1 : (gw2.toList != ([] : List UInt8)) = true := bne_iff_ne.mpr c24
         by_cases c28 : 0 < (gw2.size : Int)
         ·rw [if_pos c28] at H
          have c28b0 : decide (0 < (gw2.size : Int)) = true := decide_eq_true c28
          have c28b1 : decide (0 < gw2.size) = true := decide_eq_true (by omega)
          clear c28
          by_cases c30 : (bt gw2 0) = 63
          ·rw [if_pos c30] at H
           have c30b0 : ((bt gw2 0) == 63) = true := beq_iff_eq.mpr c30
           have c30b1 : ((bt gw2 0) != 63) = false := bne_eq_false_iff_eq.mpr c30
           clear c30
           by_cases c31 : 1 + gw2.size ≤ 9223372036854775807
           ·rw [if_pos c31] at H
            have c31b0 := eq_true c31
            have c31b1 : decide (1 + gw2.size ≤ 9223372036854775807) = true := decide_eq_true c31
            try have c31b2 : (9223372036854775807 < 1 + gw2.size) = False := eq_false (Nat.not_lt.2 c31)
            try (have c31b3 := c31b2; simp only [ByteArray.size_extract, ByteArray.size_append, Nat.min_self, Nat.sub_zero] at c31b3)
            have c32b0 := eq_true (of_decide_eq_true (by assumption) : 0 ≤ x4_1)
            have c33b0 := eq_true (of_decide_eq_true (by assumption) : x4_1 ≤ (a0.size : Int))
            simp only [Option.some.injEq, Prod.mk.injEq] at H
            obtain ⟨rfl, rfl⟩ := H
            have p4 : 0 ≤ (x4_1 : Int) := of_decide_eq_true (by assumption)
            have q4 : x4_1 < (a0.size : Int) := of_decide_eq_true (by assumption)
            have hx4 := bt_at a0 x4_1
            replace p4 := eq_true p4
            replace q4 := eq_true q4
            have p20 : 0 ≤ (x4_1 : Int) := of_decide_eq_true (by assumption)
            have q20 : x4_1 < (a0.size : Int) := of_decide_eq_true (by assumption)
            have hx20 := bt_at a0 x4_1
            replace p20 := eq_true p20
            replace q20 := eq_true q20
            have p29 : 0 ≤ (0 : Int) := (by omega)
            have q29 : 0 < gw2.size := (by have : (0 : Int) < (gw2.size : Int) := of_decide_eq_true (by assumption); omega)
            have hx29 : ∀ h : 0 < gw2.size, ((gw2[0]'h).toNat : Int) = bt gw2 0 := bt_at gw2 0
            clear p29
            have qi29 : (0 < (gw2.size : Int)) = True := eq_true (of_decide_eq_true (by assumption))
            replace q29 := eq_true q29
            go_wp2
            go_ret2
            exact ⟨by first | rfl | (simp; done) | (simp [*]; done) | (simp [ne_nil_B, eq_nil_B]; done), by repeat (first | exact Drawn0.refl _ | apply Drawn0.step)⟩
           ·rw [if_neg c31] at H
            exact absurd H (by simp)
          ·rw [if_neg c30] at H
           have c30b0 : ((bt gw2 0) == 63) = false := beq_eq_false_iff_ne.mpr c30
           have c30b1 : ((bt gw2 0) != 63) = true := bne_iff_ne.mpr c30
           have c34b0 := eq_true (of_decide_eq_true (by assumption) : 0 ≤ x4_1)
           have c35b0 := eq_true (of_decide_eq_true (by assumption) : x4_1 ≤ (a0.size : Int))
           simp only [Option.some.injEq, Prod.mk.injEq] at H
           obtain ⟨rfl, rfl⟩ := H
           have p4 : 0 ≤ (x4_1 : Int) := of_decide_eq_true (by assumption)
           have q4 : x4_1 < (a0.size : Int) := of_decide_eq_true (by assumption)
           have hx4 := bt_at a0 x4_1
           replace p4 := eq_true p4
           replace q4 := eq_true q4
           have p20 : 0 ≤ (x4_1 : Int) := of_decide_eq_true (by assumption)
           have q20 : x4_1 < (a0.size : Int) := of_decide_eq_true (by assumption)
           have hx20 := bt_at a0 x4_1
           replace p20 := eq_true p20
           replace q20 := eq_true q20
           have p29 : 0 ≤ (0 : Int) := (by omega)
           have q29 : 0 < gw2.size := (by have : (0 : Int) < (gw2.size : Int) := of_decide_eq_true (by assumption); omega)
           have hx29 : ∀ h : 0 < gw2.size, ((gw2[0]'h).toNat : Int) = bt gw2 0 := bt_at gw2 0
           clear p29
           have qi29 : (0 < (gw2.size : Int)) = True := eq_true (of_decide_eq_true (by assumption))
           replace q29 := eq_true q29
           go_wp2
           go_ret2
           exact ⟨by first | rfl | (simp; done) | (simp [*]; done) | (simp [ne_nil_B, eq_nil_B]; done), by repeat (first | exact Drawn0.refl _ | apply Drawn0.step)⟩
         ·rw [if_neg c28] at H
          exact absurd H (by simp)
       ·rw [if_neg c23] at H
        exact absurd H (by simp)
      ·rw [if_neg c21] at H
       have c21b0 : ((bt a0 x4_1) == 63) = false := beq_eq_false_iff_ne.mpr c21
       have c21b1 : ((bt a0 x4_1) != 63) = true := bne_iff_ne.mpr c21
       have H' := Aside0.mk H
       clear H
       have p4 : 0 ≤ (x4_1 : Int) := of_decide_eq_true (by assumption)
       have q4 : x4_1 < (a0.size : Int) := of_decide_eq_true (by assumption)
       have hx4 := bt_at a0 x4_1
       replace p4 := eq_true p4
       replace q4 := eq_true q4
       have p20 : 0 ≤ (x4_1 : Int) := of_decide_eq_true (by assumption)
       have q20 : x4_1 < (a0.size : Int) := of_decide_eq_true (by assumption)
       have hx20 := bt_at a0 x4_1
       replace p20 := eq_true p20
       replace q20 := eq_true q20
       go_wp2
       go_roundg k1
       case measure => have := HK1.out; omega
       case rel => exact ⟨(wrap64 (x4_1 + 1)), (by first | rfl | (simp; done) | (simp [*]; done) | (simp [ne_nil_B, eq_nil_B]; done)), H', ⟨by have := HK1.out; omega⟩, by repeat (first | exact Drawn0.refl _ | apply Drawn0.step)⟩
    ·rw [if_neg c3] at H
     exact absurd H (by simp)
   ·rw [if_neg c2] at H
    have c2b0 : decide (x4_1 < (a0.size : Int)) = false := decide_eq_false c2
    clear c2
    by_cases c36 : 0 ≤ x4_1
    ·rw [if_pos c36] at H
     have c36b0 := eq_true c36
     have c36b1 : decide (0 ≤ x4_1) = true := decide_eq_true c36
     clear c36
     by_cases c37 : x4_1 ≤ (a0.size : Int)
     ·rw [if_pos c37] at H
      have c37b0 := eq_true c37
      have c37b1 : decide (x4_1 ≤ (a0.size : Int)) = true := decide_eq_true c37
      clear c37
      generalize hgw3 : (a0.extract (x4_1 : Int).toNat a0.size) = gw3 at *
      by_cases c38 : gw3.toList = ([] : List UInt8)
      ·rw [if_pos c38] at H
       have c38b0 : (gw3.toList == ([] : List UInt8)) = true := beq_iff_eq.mpr c38
       have c38b1 : (gw3.toList != ([] : List UInt8)) = false := bne_eq_false_iff_eq.mpr c38
       clear c38
       by_cases c39 : 1 + gw3.size ≤ 9223372036854775807
       ·rw [if_pos c39] at H
        have c39b0 := eq_true c39
        have c39b1 : decide (1 + gw3.size ≤ 9223372036854775807) = true := decide_eq_true c39
        try have c39b2 : (9223372036854775807 < 1 + gw3.size) = False := eq_false (Nat.not_lt.2 c39)
        try (have c39b3 := c39b2; simp only [ByteArray.size_extract, ByteArray.size_append, Nat.min_self, Nat.sub_zero] at c39b3)
        have c40b0 := eq_true (of_decide_eq_true (by assumption) : 0 ≤ x4_1)
        have c41b0 := eq_true (of_decide_eq_true (by assumption) : x4_1 ≤ (a0.size : Int))
        simp only [Option.some.injEq, Prod.mk.injEq] at H
        obtain ⟨rfl, rfl⟩ := H
        go_wp2
        go_ret2
        exact ⟨by first | rfl | (simp; done) | (simp [*]; done) | (simp [ne_nil_B, eq_nil_B]; done), by repeat (first | exact Drawn0.refl _ | apply Drawn0.step)⟩
       ·rw [if_neg c39] at H
        exact absurd H (by simp)
      ·rw [if_neg c38] at H
       have c38b0 : (gw3.toList == ([] : List UInt8)) = false := beq_eq_false_iff_ne.mpr c38
       have c38b1 : (gw3.toList != ([] : List UInt8)) = true := bne_iff_ne.mpr c38
       by_cases c42 : 0 < (gw3.size : Int)
       ·rw [if_pos c42] at H
        have c42b0 : decide (0 < (gw3.size : Int)) = true := decide_eq_true c42
        have c42b1 : decide (0 < gw3.size) = true := decide_eq_true (by omega)
        clear c42
        by_cases c44 : (bt gw3 0) = 63
        ·rw [if_pos c44] at H
         have c44b0 : ((bt gw3 0) == 63) = true := beq_iff_eq.mpr c44
         have c44b1 : ((bt gw3 0) != 63) = false := bne_eq_false_iff_eq.mpr c44
         clear c44
         by_cases c45 : 1 + gw3.size ≤ 9223372036854775807
         ·rw [if_pos c45] at H
          have c45b0 := eq_true c45
          have c45b1 : decide (1 + gw3.size ≤ 9223372036854775807) = true := decide_eq_true c45
          try have c45b2 : (9223372036854775807 < 1 + gw3.size) = False := eq_false (Nat.not_lt.2 c45)
          try (have c45b3 := c45b2; simp only [ByteArray.size_extract, ByteArray.size_append, Nat.min_self, Nat.sub_zero] at c45b3)
          have c46b0 := eq_true (of_decide_eq_true (by assumption) : 0 ≤ x4_1)
          have c47b0 := eq_true (of_decide_eq_true (by assumption) : x4_1 ≤ (a0.size : Int))
          simp only [Option.some.injEq, Prod.mk.injEq] at H
          obtain ⟨rfl, rfl⟩ := H
          have p43 : 0 ≤ (0 : Int) := (by omega)
          have q43 : 0 < gw3.size := (by have : (0 : Int) < (gw3.size : Int) := of_decide_eq_true (by assumption); omega)
          have hx43 : ∀ h : 0 < gw3.size, ((gw3[0]'h).toNat : Int) = bt gw3 0 := bt_at gw3 0
          clear p43
          have qi43 : (0 < (gw3.size : Int)) = True := eq_true (of_decide_eq_true (by assumption))
          replace q43 := eq_true q43
          go_wp2
          go_ret2
          exact ⟨by first | rfl | (simp; done) | (simp [*]; done) | (simp [ne_nil_B, eq_nil_B]; done), by repeat (first | exact Drawn0.refl _ | apply Drawn0.step)⟩
         ·rw [if_neg c45] at H
          exact absurd H (by simp)
        ·rw [if_neg c44] at H
         have c44b0 : ((bt gw3 0) == 63) = false := beq_eq_false_iff_ne.mpr c44
         have c44b1 : ((bt gw3 0) != 63) = true := bne_iff_ne.mpr c44
         have c48b0 := eq_true (of_decide_eq_true (by assumption) : 0 ≤ x4_1)
         have c49b0 := eq_true (of_decide_eq_true (by assumption) : x4_1 ≤ (a0.size : Int))
         simp only [Option.some.injEq, Prod.mk.injEq] at H
         obtain ⟨rfl, rfl⟩ := H
         have p43 : 0 ≤ (0 : Int) := (by omega)
         have q43 : 0 < gw3.size := (by have : (0 : Int) < (gw3.size : Int) := of_decide_eq_true (by assumption); omega)
         have hx43 : ∀ h : 0 < gw3.size, ((gw3[0]'h).toNat : Int) = bt gw3 0 := bt_at gw3 0
         clear p43
         have qi43 : (0 < (gw3.size : Int)) = True := eq_true (of_decide_eq_true (by assumption))
         replace q43 := eq_true q43
         go_wp2
         go_ret2
         exact ⟨by first | rfl | (simp; done) | (simp [*]; done) | (simp [ne_nil_B, eq_nil_B]; done), by repeat (first | exact Drawn0.refl _ | apply Drawn0.step)⟩
       ·rw [if_neg c42] at H
        exact absurd H (by simp)
     ·rw [if_neg c37] at H
      exact absurd H (by simp)
    ·rw [if_neg c36] at H
     exact absurd H (by simp)
/-! ### pantryref08_cut: function 25 -/
def pantryref08_cut.l0 : Nat → ByteArray → Int → Option (ByteArray × ByteArray × Bool)
 | 0, _, _ => none
 | k + 1, x0, x5 => if x5 < (x0.size : Int) then (if 0 ≤ x5 then (if (bt x0 x5) = 63 then (if x5 ≤ (x0.size : Int) then (if 0 ≤ (wrap64 (x5 + 1)) then (if (wrap64 (x5 + 1)) ≤ (x0.size : Int) then (some (x0.extract 0 (x5 : Int).toNat, x0.extract ((wrap64 (x5 + 1)) : Int).toNat x0.size, true)) else (none)) else (none)) else (none)) else (pantryref08_cut.l0 k x0 (wrap64 (x5 + 1)))) else (none)) else (some (x0, (⟨#[]⟩ : ByteArray), false))
def pantryref08_cut.f (k : Nat) (a0 : ByteArray) : Option (ByteArray × ByteArray × Bool) := pantryref08_cut.l0 k a0 0
set_option maxHeartbeats 8000000 in
set_option maxRecDepth 100000 in
theorem pantryref08_cut.calls (k : Nat) (a0 : ByteArray) (r1 : ByteArray) (r2 : ByteArray) (r3 : Bool) (w : World) (h : pantryref08_cut.f k a0 = some (r1, r2, r3)) :
  Calls Tryd.prog 25 #[.string a0] w fun e w' => e = .returned (.tuple #[.string r1, .string r2, .bool r3]) ∧ Drawn0 w w' := by
 have H : (pantryref08_cut.l0 k a0 0) = some (r1, r2, r3) := h
 clear h
 have H' := Aside0.mk H
 clear H
 go_enter Tryd.func25, Tryd.ntmps25
 go_wp2
 repeat (go_quiet (fail); try go_wp2)
 go_loopg [5] k (fun kq v5 w' => ∃ (x5_1 : Int), v5 = .int .i64 x5_1 ∧ Aside0 (pantryref08_cut.l0 kq a0 x5_1 = some (r1, r2, r3)) ∧ Aside0 (kq ≤ k) ∧ Drawn0 w w')
 case atStart => exact ⟨(0), (by first | rfl | (simp; done) | (simp [*]; done) | (simp [ne_nil_B, eq_nil_B]; done)), H', ⟨Nat.le_refl _⟩, by repeat (first | exact Drawn0.refl _ | apply Drawn0.step)⟩
 case round =>
  clear H'
  obtain ⟨x5_1, rfl, HA, HK1, ⟨m1, rfl⟩⟩ := hrel
  cases gk with
  | zero => exact absurd HA.out (by simp [pantryref08_cut.l0])
  | succ k1 =>
   have H := HA.out
   clear HA
   simp only [pantryref08_cut.l0] at H
   by_cases c2 : x5_1 < (a0.size : Int)
   ·rw [if_pos c2] at H
    have c2b0 : decide (x5_1 < (a0.size : Int)) = true := decide_eq_true c2
    clear c2
    by_cases c3 : 0 ≤ x5_1
    ·rw [if_pos c3] at H
     have c3b0 : decide (0 ≤ x5_1) = true := decide_eq_true c3
     clear c3
     by_cases c5 : (bt a0 x5_1) = 63
     ·rw [if_pos c5] at H
      have c5b0 : ((bt a0 x5_1) == 63) = true := beq_iff_eq.mpr c5
      have c5b1 : ((bt a0 x5_1) != 63) = false := bne_eq_false_iff_eq.mpr c5
      clear c5
      have c6b0 := eq_true (of_decide_eq_true (by assumption) : 0 ≤ x5_1)
      by_cases c7 : x5_1 ≤ (a0.size : Int)
      ·rw [if_pos c7] at H
       have c7b0 := eq_true c7
       have c7b1 : decide (x5_1 ≤ (a0.size : Int)) = true := decide_eq_true c7
       clear c7
       obtain ⟨ji8, hji8⟩ : ∃ j_ : Int, (wrap64 (x5_1 + 1)) = j_ := ⟨_, rfl⟩
       replace H : (if 0 ≤ (ji8) then (if (ji8) ≤ (a0.size : Int) then (some (a0.extract 0 (x5_1 : Int).toNat, a0.extract ((ji8) : Int).toNat a0.size, true)) else (none)) else (none)) = some (r1, r2, r3) := by first | (rw [hji8] at H; exact H) | (simp only [hji8] at H ⊢; exact H)
       have hji8w : (IntKind.i64.wrap (x5_1 + 1)) = ji8 := (i64_w _).trans hji8
       by_cases c9 : 0 ≤ (ji8)
       ·rw [if_pos c9] at H
        have c9b0 := eq_true c9
        have c9b1 : decide (0 ≤ (ji8)) = true := decide_eq_true c9
        clear c9
        by_cases c10 : (ji8) ≤ (a0.size : Int)
        ·rw [if_pos c10] at H
         have c10b0 := eq_true c10
         have c10b1 : decide ((ji8) ≤ (a0.size : Int)) = true := decide_eq_true c10
         clear c10
         simp only [Option.some.injEq, Prod.mk.injEq] at H
         obtain ⟨rfl, rfl, rfl⟩ := H
         have p4 : 0 ≤ (x5_1 : Int) := of_decide_eq_true (by assumption)
         have q4 : x5_1 < (a0.size : Int) := of_decide_eq_true (by assumption)
         have hx4 := bt_at a0 x5_1
         replace p4 := eq_true p4
         replace q4 := eq_true q4
         go_wp2
         repeat (go_quiet (fail); try go_wp2)
         go_ret3
         exact ⟨by first | rfl | (simp; done) | (simp only [← hji8] <;> (first | rfl | simp)) | (simp [*]; done), by repeat (first | exact Drawn0.refl _ | apply Drawn0.step)⟩
        ·rw [if_neg c10] at H
         exact absurd H (by simp)
       ·rw [if_neg c9] at H
        exact absurd H (by simp)
      ·rw [if_neg c7] at H
       exact absurd H (by simp)
     ·rw [if_neg c5] at H
      have c5b0 : ((bt a0 x5_1) == 63) = false := beq_eq_false_iff_ne.mpr c5
      have c5b1 : ((bt a0 x5_1) != 63) = true := bne_iff_ne.mpr c5
      have H' := Aside0.mk H
      clear H
      have p4 : 0 ≤ (x5_1 : Int) := of_decide_eq_true (by assumption)
      have q4 : x5_1 < (a0.size : Int) := of_decide_eq_true (by assumption)
      have hx4 := bt_at a0 x5_1
      replace p4 := eq_true p4
      replace q4 := eq_true q4
      go_wp2
      repeat (go_quiet (fail); try go_wp2)
      go_roundg k1
      case measure => have := HK1.out; omega
      case rel => exact ⟨(wrap64 (x5_1 + 1)), (by first | rfl | (simp; done) | (simp [*]; done) | (simp [ne_nil_B, eq_nil_B]; done)), H', ⟨by have := HK1.out; omega⟩, by repeat (first | exact Drawn0.refl _ | apply Drawn0.step)⟩
    ·rw [if_neg c3] at H
     exact absurd H (by simp)
   ·rw [if_neg c2] at H
    have c2b0 : decide (x5_1 < (a0.size : Int)) = false := decide_eq_false c2
    clear c2
    simp only [Option.some.injEq, Prod.mk.injEq] at H
    obtain ⟨rfl, rfl, rfl⟩ := H
    go_wp2
    repeat (go_quiet (fail); try go_wp2)
    go_ret3
    exact ⟨by first | rfl | (simp; done) | (simp [*]; done) | (simp [ne_nil_B, eq_nil_B]; done), by repeat (first | exact Drawn0.refl _ | apply Drawn0.step)⟩
/-! ### pantryref08_value: function 44 -/
mutual
def pantryref08_value.j0 : Nat → Int → Bool → Option (Int)
 | 0, _, _ => none
 | k + 1, x0, x8 => if x8 = true then (some (wrap64 ((wrap64 (x0)) - 48))) else (if x0 ≥ 97 then (pantryref08_value.j1 k x0 (decide (x0 ≤ 102))) else (pantryref08_value.j1 k x0 false))
def pantryref08_value.j1 : Nat → Int → Bool → Option (Int)
 | 0, _, _ => none
 | k + 1, x0, x17 => if x17 = true then (some (wrap64 ((wrap64 ((wrap64 (x0)) - 97)) + 10))) else (if x0 ≥ 65 then (if x0 ≤ 70 then (some (wrap64 ((wrap64 ((wrap64 (x0)) - 65)) + 10))) else (some (-1))) else (some (-1)))
end
def pantryref08_value.f (k : Nat) (a0 : Int) : Option (Int) := if a0 ≥ 48 then (pantryref08_value.j0 k a0 (decide (a0 ≤ 57))) else (pantryref08_value.j0 k a0 false)
theorem pantryref08_value.mono_l : ∀ k, (∀ y0 y1, LeO (pantryref08_value.j0 k y0 y1) (pantryref08_value.j0 (k + 1) y0 y1)) ∧ (∀ y0 y1, LeO (pantryref08_value.j1 k y0 y1) (pantryref08_value.j1 (k + 1) y0 y1))
 | 0 => ⟨fun _ _ r h => by simp [pantryref08_value.j0] at h, fun _ _ r h => by simp [pantryref08_value.j1] at h⟩
 | k + 1 => by
  obtain ⟨ih0, ih1⟩ := pantryref08_value.mono_l k
  refine ⟨?_, ?_⟩
  ·intro y0 y1
   unfold pantryref08_value.j0
   repeat' first
   | (with_reducible exact ih0 _ _)
   | (with_reducible exact ih1 _ _)
   | (with_reducible exact LeO.refl _)
   | (with_reducible exact LeO.none _)
   | (with_reducible refine LeO.ite ?_ ?_)
   | (with_reducible refine LeO.bind ?_ (fun _ => ?_))
   | exact ih0 _ _
   | exact ih1 _ _
   | exact LeO.none _
   | refine LeO.ite ?_ ?_
   | refine LeO.bind ?_ (fun _ => ?_)
  ·intro y0 y1
   unfold pantryref08_value.j1
   repeat' first
   | (with_reducible exact ih0 _ _)
   | (with_reducible exact ih1 _ _)
   | (with_reducible exact LeO.refl _)
   | (with_reducible exact LeO.none _)
   | (with_reducible refine LeO.ite ?_ ?_)
   | (with_reducible refine LeO.bind ?_ (fun _ => ?_))
   | exact ih0 _ _
   | exact ih1 _ _
   | exact LeO.none _
   | refine LeO.ite ?_ ?_
   | refine LeO.bind ?_ (fun _ => ?_)
theorem pantryref08_value.mono : ∀ a0 k, LeO (pantryref08_value.f k a0) (pantryref08_value.f (k + 1) a0) := by
 intro a0 k
 obtain ⟨ih0, ih1⟩ := pantryref08_value.mono_l k
 unfold pantryref08_value.f
 repeat' first
   | (with_reducible exact ih0 _ _)
   | (with_reducible exact ih1 _ _)
   | (with_reducible exact LeO.refl _)
   | (with_reducible exact LeO.none _)
   | (with_reducible refine LeO.ite ?_ ?_)
   | (with_reducible refine LeO.bind ?_ (fun _ => ?_))
   | exact ih0 _ _
   | exact ih1 _ _
   | exact LeO.none _
   | refine LeO.ite ?_ ?_
   | refine LeO.bind ?_ (fun _ => ?_)
set_option maxHeartbeats 8000000 in
set_option maxRecDepth 100000 in
theorem pantryref08_value.calls (k : Nat) (a0 : Int) (r : Int) (w : World) (h : pantryref08_value.f k a0 = some r) :
  Calls Tryd.prog 44 #[.int .u8 a0] w fun e w' => e = .returned (.int .i64 r) ∧ Drawn0 w w' := by
 have H : (if a0 ≥ 48 then (pantryref08_value.j0 k a0 (decide (a0 ≤ 57))) else (pantryref08_value.j0 k a0 false)) = some r := h
 clear h
 have HC2 := Aside0.mk H
 clear H
 go_enter Tryd.func44, Tryd.ntmps44
 go_upto_region 1 with (fail)
 go_cut [8] (fun v8 wc => ∃ (kq : Nat) (x8_1 : Bool), v8 = .bool x8_1 ∧ Aside0 (pantryref08_value.j0 kq a0 x8_1 = some r) ∧ Aside0 (kq ≤ k) ∧ Drawn0 w wc)
 case first =>
  have H := HC2.out
  clear HC2
  by_cases c3 : a0 ≥ 48
  ·rw [if_pos c3] at H
   have c3b0 : decide (48 ≤ a0) = true := decide_eq_true c3
   clear c3
   (first | rw [c3b0] | (simp only [i64_w, i32_w]; rw [c3b0]) | skip)
   have H' := Aside0.mk H
   clear H
   go_wp2
   go_meet
   case rel => exact ⟨_, (decide (a0 ≤ 57)), (by first | rfl | (simp; done) | (simp [*]; done) | (simp [ne_nil_B, eq_nil_B]; done)), H', ⟨by first | omega | exact Nat.le_refl _⟩, by repeat (first | exact Drawn0.refl _ | apply Drawn0.step)⟩
  ·rw [if_neg c3] at H
   have c3b0 : decide (48 ≤ a0) = false := decide_eq_false c3
   clear c3
   (first | rw [c3b0] | (simp only [i64_w, i32_w]; rw [c3b0]) | skip)
   have H' := Aside0.mk H
   clear H
   go_wp2
   go_meet
   case rel => exact ⟨_, (false), (by first | rfl | (simp; done) | (simp [*]; done) | (simp [ne_nil_B, eq_nil_B]; done)), H', ⟨by first | omega | exact Nat.le_refl _⟩, by repeat (first | exact Drawn0.refl _ | apply Drawn0.step)⟩
 case rest =>
  clear HC2
  (try clear p2); (try clear c3); (try clear c3b0)
  obtain ⟨kq, x8_1, rfl, HA, HJ1, ⟨mc1, rfl⟩⟩ := hcut
  cases kq with
  | zero => exact absurd HA.out (by simp [pantryref08_value.j0])
  | succ kj1 =>
   have H := HA.out
   clear HA
   simp only [pantryref08_value.j0] at H
   by_cases c4 : x8_1 = true
   ·subst c4
    have H1 : (some (wrap64 ((wrap64 (a0)) - 48))) = some r := by rw [if_pos rfl] at H; exact H
    clear H
    have H := H1
    clear H1
    obtain rfl := Option.some.inj H
    go_wp2
    go_ret
    exact ⟨by first | rfl | (simp; done) | (simp [*]; done) | (simp [ne_nil_B, eq_nil_B]; done), by repeat (first | exact Drawn0.refl _ | apply Drawn0.step)⟩
   ·replace c4 := Bool.eq_false_iff.mpr c4
    subst c4
    have H1 : (if a0 ≥ 97 then (pantryref08_value.j1 kj1 a0 (decide (a0 ≤ 102))) else (pantryref08_value.j1 kj1 a0 false)) = some r := by rw [if_neg (show ¬ (false = true) by decide)] at H; exact H
    clear H
    have H := H1
    clear H1
    have HC5 := Aside0.mk H
    clear H
    go_upto_region 3 with (fail)
    go_cut [17] (fun v17 wc => ∃ (kq : Nat) (x17_4 : Bool), v17 = .bool x17_4 ∧ Aside0 (pantryref08_value.j1 kq a0 x17_4 = some r) ∧ Aside0 (kq ≤ kj1) ∧ Drawn0 w wc)
    case first =>
     have H := HC5.out
     clear HC5
     by_cases c6 : a0 ≥ 97
     ·rw [if_pos c6] at H
      have c6b0 : decide (97 ≤ a0) = true := decide_eq_true c6
      clear c6
      (first | rw [c6b0] | (simp only [i64_w, i32_w]; rw [c6b0]) | skip)
      have H' := Aside0.mk H
      clear H
      go_wp2
      go_meet
      case rel => exact ⟨_, (decide (a0 ≤ 102)), (by first | rfl | (simp; done) | (simp [*]; done) | (simp [ne_nil_B, eq_nil_B]; done)), H', ⟨by have := HJ1.out; first | omega | exact Nat.le_refl _⟩, by repeat (first | exact Drawn0.refl _ | apply Drawn0.step)⟩
     ·rw [if_neg c6] at H
      have c6b0 : decide (97 ≤ a0) = false := decide_eq_false c6
      clear c6
      (first | rw [c6b0] | (simp only [i64_w, i32_w]; rw [c6b0]) | skip)
      have H' := Aside0.mk H
      clear H
      go_wp2
      go_meet
      case rel => exact ⟨_, (false), (by first | rfl | (simp; done) | (simp [*]; done) | (simp [ne_nil_B, eq_nil_B]; done)), H', ⟨by have := HJ1.out; first | omega | exact Nat.le_refl _⟩, by repeat (first | exact Drawn0.refl _ | apply Drawn0.step)⟩
    case rest =>
     clear HC5
     (try clear c1); (try clear p2); (try clear c3); (try clear c3b0); (try clear c4); (try clear c6); (try clear c6b0); (try clear p6); (try clear p2)
     obtain ⟨kq, x17_4, rfl, HA, HJ4, ⟨mc4, rfl⟩⟩ := hcut
     cases kq with
     | zero => exact absurd HA.out (by simp [pantryref08_value.j1])
     | succ kj4 =>
      have H := HA.out
      clear HA
      simp only [pantryref08_value.j1] at H
      by_cases c7 : x17_4 = true
      ·subst c7
       have H1 : (some (wrap64 ((wrap64 ((wrap64 (a0)) - 97)) + 10))) = some r := by rw [if_pos rfl] at H; exact H
       clear H
       have H := H1
       clear H1
       obtain rfl := Option.some.inj H
       go_wp2
       go_ret
       exact ⟨by first | rfl | (simp; done) | (simp [*]; done) | (simp [ne_nil_B, eq_nil_B]; done), by repeat (first | exact Drawn0.refl _ | apply Drawn0.step)⟩
      ·replace c7 := Bool.eq_false_iff.mpr c7
       subst c7
       have H1 : (if a0 ≥ 65 then (if a0 ≤ 70 then (some (wrap64 ((wrap64 ((wrap64 (a0)) - 65)) + 10))) else (some (-1))) else (some (-1))) = some r := by rw [if_neg (show ¬ (false = true) by decide)] at H; exact H
       clear H
       have H := H1
       clear H1
       by_cases c8 : a0 ≥ 65
       ·rw [if_pos c8] at H
        have c8b0 : decide (65 ≤ a0) = true := decide_eq_true c8
        clear c8
        by_cases c9 : a0 ≤ 70
        ·rw [if_pos c9] at H
         have c9b0 : decide (a0 ≤ 70) = true := decide_eq_true c9
         clear c9
         obtain rfl := Option.some.inj H
         go_wp2
         go_ret
         exact ⟨by first | rfl | (simp; done) | (simp [*]; done) | (simp [ne_nil_B, eq_nil_B]; done), by repeat (first | exact Drawn0.refl _ | apply Drawn0.step)⟩
        ·rw [if_neg c9] at H
         have c9b0 : decide (a0 ≤ 70) = false := decide_eq_false c9
         clear c9
         obtain rfl := Option.some.inj H
         go_wp2
         go_ret
         exact ⟨by first | rfl | (simp; done) | (simp [*]; done) | (simp [ne_nil_B, eq_nil_B]; done), by repeat (first | exact Drawn0.refl _ | apply Drawn0.step)⟩
       ·rw [if_neg c8] at H
        have c8b0 : decide (65 ≤ a0) = false := decide_eq_false c8
        clear c8
        obtain rfl := Option.some.inj H
        go_wp2
        go_ret
        exact ⟨by first | rfl | (simp; done) | (simp [*]; done) | (simp [ne_nil_B, eq_nil_B]; done), by repeat (first | exact Drawn0.refl _ | apply Drawn0.step)⟩
end Go.Proofs.YtgkgljendffhlaaDoor.P
