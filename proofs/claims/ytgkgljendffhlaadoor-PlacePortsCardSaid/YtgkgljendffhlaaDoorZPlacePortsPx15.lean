import Derived.Test.YtgkgljendffhlaaDoorZPlacePortsPx0
import Derived.Test.YtgkgljendffhlaaDoorZPlacePortsPx2
import Derived.Test.YtgkgljendffhlaaDoorZPlacePortsPx6
import Derived.Test.YtgkgljendffhlaaDoorZPlacePortsPx14
namespace Go.Proofs.YtgkgljendffhlaaDoor.P
open Go.RowKit Go.Proofs.YtgkgljendffhlaaDoorW.PrintWords Go.Proofs.YtgkgljendffhlaaDoorW.PrintLast Go.Proofs.YtgkgljendffhlaaDoorW.PrintMore
attribute [local go_sem] max2_int min2_int max_two min_two max_three min_three max_four min_four u8_div16 u8_mod16
set_option linter.unusedVariables false
set_option linter.unusedSimpArgs false
/-! ### pantrylaw08_PlacePorts: function 6 -/
mutual
def pantrylaw08_PlacePorts.j0 : Nat → ByteArray → Int → Int → Bool → Option (Bool)
 | 0, _, _, _, _ => none
 | k + 1, x0, x1, x2, x37 => if x37 = true then (some true) else ((place_Host.f k x0).bind fun bt569 => (if x0.size + 1 ≤ 9223372036854775807 then ((place_Host.f k (x0 ++ (⟨#[58]⟩ : ByteArray))).bind fun bt571 => (if x0.size + 3 ≤ 9223372036854775807 then ((place_Host.f k (x0 ++ (⟨#[58, 56, 48]⟩ : ByteArray))).bind fun bt573 => ((pantrylaw08_text.f k x1).bind fun t575 => (pantrylaw08_PlacePorts.l0 k x0 x1 bt569.1 bt569.2 bt571.1 bt571.2 bt573.1 bt573.2 t575 x2 0))) else (none))) else (none)))
def pantrylaw08_PlacePorts.l0 : Nat → ByteArray → Int → ByteArray → Int → ByteArray → Int → ByteArray → Int → ByteArray → Int → Int → Option (Bool)
 | 0, _, _, _, _, _, _, _, _, _, _, _ => none
 | k + 1, x0, x1, x7, x8, x9, x10, x11, x12, x13, x57, x58 => if x58 < x57 then (if 1 + x13.size ≤ 9223372036854775807 then (pantrylaw08_PlacePorts.l0 k x0 x1 x7 x8 x9 x10 x11 x12 ((⟨#[48]⟩ : ByteArray) ++ x13) x57 (wrap64 (x58 + 1))) else (none)) else (if x0.size + 1 ≤ 9223372036854775807 then (if (x0 ++ (⟨#[58]⟩ : ByteArray)).size + x13.size ≤ 9223372036854775807 then ((place_Host.f k ((x0 ++ (⟨#[58]⟩ : ByteArray)) ++ x13)).bind fun bt576 => (pantrylaw08_PlacePorts.l1 k x0 x1 x7 x8 x9 x10 x11 x12 x13 bt576.1 bt576.2 (x0.size : Int) 0)) else (none)) else (none))
def pantrylaw08_PlacePorts.l1 : Nat → ByteArray → Int → ByteArray → Int → ByteArray → Int → ByteArray → Int → ByteArray → ByteArray → Int → Int → Int → Option (Bool)
 | 0, _, _, _, _, _, _, _, _, _, _, _, _, _ => none
 | k + 1, x0, x1, x7, x8, x9, x10, x11, x12, x13, x14, x15, x72, x73 => if x73 < x72 then (if 0 ≤ x73 then (if x73 < (x0.size : Int) then (if (bt x0 x73) = 58 then (some true) else (pantrylaw08_PlacePorts.l1 k x0 x1 x7 x8 x9 x10 x11 x12 x13 x14 x15 x72 (wrap64 (x73 + 1)))) else (none)) else (none)) else (if x8 = 0 then (if x7.toList = x9.toList then (if x7.toList = x11.toList then (if x10 = 0 then (pantrylaw08_PlacePorts.j3 k x1 x7 x13 x14 x15 (x12 != 0)) else (pantrylaw08_PlacePorts.j3 k x1 x7 x13 x14 x15 true)) else (pantrylaw08_PlacePorts.j3 k x1 x7 x13 x14 x15 true)) else (pantrylaw08_PlacePorts.j3 k x1 x7 x13 x14 x15 true)) else (if x10 = 0 then (some false) else (if x12 = 0 then (some false) else (some (x15 != 0)))))
def pantrylaw08_PlacePorts.j3 : Nat → Int → ByteArray → ByteArray → ByteArray → Int → Bool → Option (Bool)
 | 0, _, _, _, _, _, _ => none
 | k + 1, x1, x7, x13, x14, x15, x108 => if x108 = true then (some false) else (if (x13.size : Int) > 5 then (some (x15 == 25)) else (if x15 = 0 then (if x1 = 80 then (if x14.toList = x7.toList then (some true) else (some false)) else (if x7.size + 1 ≤ 9223372036854775807 then ((pantrylaw08_text.f k x1).bind fun t578 => (if (x7 ++ (⟨#[58]⟩ : ByteArray)).size + t578.size ≤ 9223372036854775807 then (some (x14.toList == ((x7 ++ (⟨#[58]⟩ : ByteArray)) ++ t578).toList)) else (none))) else (none))) else (some false)))
end
def pantrylaw08_PlacePorts.f (k : Nat) (a0 : ByteArray) (a1 : Int) (a2 : Int) : Option (Bool) := (pantrylaw08_anchor.f k).bind fun t568 => (if t568 = true then (if (a0.size : Int) > 40 then (pantrylaw08_PlacePorts.j0 k a0 a1 a2 true) else (if a1 < 0 then (pantrylaw08_PlacePorts.j0 k a0 a1 a2 true) else (if a1 > 99999 then (pantrylaw08_PlacePorts.j0 k a0 a1 a2 true) else (if a2 < 0 then (pantrylaw08_PlacePorts.j0 k a0 a1 a2 true) else (pantrylaw08_PlacePorts.j0 k a0 a1 a2 (decide (a2 > 4))))))) else (some false))
set_option maxHeartbeats 8000000 in
set_option maxRecDepth 100000 in
theorem pantrylaw08_PlacePorts.calls (k : Nat) (a0 : ByteArray) (a1 : Int) (a2 : Int) (r : Bool) (w : World) (h : pantrylaw08_PlacePorts.f k a0 a1 a2 = some r) (hG : GW w := by first | (exact Aside0.out (by assumption)) | (refine GW.via (by assumption) ?_; repeat (first | (exact Aside0.out (by assumption)) | exact Below.refl _ _ | apply below_alloc | apply pw_below_drewN | apply below_drew1 | (refine below_set ?_ (Aside0.out (by assumption)))))) :
  Calls Tryd.prog 6 #[.string a0, .int .i64 a1, .int .i64 a2] w fun e w' => e = .returned (.bool r) ∧ Below w.heap.size w w' := by
 have HB := Aside0.mk (Below.refl w.heap.size w)
 have HG := Aside0.mk hG
 clear hG
 have H : ((pantrylaw08_anchor.f k).bind fun t568 => (if t568 = true then (if (a0.size : Int) > 40 then (pantrylaw08_PlacePorts.j0 k a0 a1 a2 true) else (if a1 < 0 then (pantrylaw08_PlacePorts.j0 k a0 a1 a2 true) else (if a1 > 99999 then (pantrylaw08_PlacePorts.j0 k a0 a1 a2 true) else (if a2 < 0 then (pantrylaw08_PlacePorts.j0 k a0 a1 a2 true) else (pantrylaw08_PlacePorts.j0 k a0 a1 a2 (decide (a2 > 4))))))) else (some false))) = some r := h
 clear h
 replace H := Option.bind_eq_some_iff.mp H
 obtain ⟨t568, A40, H⟩ := H
 (try dsimp only at H)
 have A4 := Aside0.mk A40
 clear A40
 by_cases c5 : t568 = true
 ·subst c5
  have H1 : (if (a0.size : Int) > 40 then (pantrylaw08_PlacePorts.j0 k a0 a1 a2 true) else (if a1 < 0 then (pantrylaw08_PlacePorts.j0 k a0 a1 a2 true) else (if a1 > 99999 then (pantrylaw08_PlacePorts.j0 k a0 a1 a2 true) else (if a2 < 0 then (pantrylaw08_PlacePorts.j0 k a0 a1 a2 true) else (pantrylaw08_PlacePorts.j0 k a0 a1 a2 (decide (a2 > 4))))))) = some r := by rw [if_pos rfl] at H; exact H
  clear H
  have H := H1
  clear H1
  have HC6 := Aside0.mk H
  clear H
  go_enter Tryd.func6, Tryd.ntmps6
  go_upto_region 3 with (first | ((with_reducible refine gate_callee (f := 10) rfl ?_); refine goesL_ (some 17) rfl rfl Tryd.func10 (by kernel_rfl) rfl #[] rfl (by (try simp only [List.map_toArray, List.map_cons, List.map_nil]); first | done | rfl | (simp only [List.length_drop, List.length_take]; rfl)) ?_; (with_reducible refine (pantrylaw08_anchor.calls k  true _ A4.out).mono ?_); rintro e w7 ⟨rfl, hb⟩; refine ⟨_, rfl, ?_⟩; have n0_ := Aside0.mk (below_step (by repeat (first | (with_reducible first | exact HB.out | apply below_alloc | apply pw_below_drewN | apply below_drew1) | exact HB.out)) hb); clear HB; have HB := n0_; clear n0_; (try clear hb); (try clear hb2); (try clear hk); (try clear hi)))
  (try simp only [Act.put, List.setIfInBounds_toArray, List.set_cons_zero, List.set_cons_succ])
  go_cut [37] (fun v37 wc => ∃ (kq : Nat) (x37_5 : Bool), v37 = .bool x37_5 ∧ Aside0 (pantrylaw08_PlacePorts.j0 kq a0 a1 a2 x37_5 = some r) ∧ Aside0 (kq ≤ k) ∧ Aside0 (Below w.heap.size w wc))
  case first =>
   have H := HC6.out
   clear HC6
   by_cases c8 : (a0.size : Int) > 40
   ·rw [if_pos c8] at H
    have c8b0 : decide (40 < (a0.size : Int)) = true := decide_eq_true c8
    have c8b1 : decide (40 < a0.size) = true := decide_eq_true (by omega)
    clear c8
    (first | rw [c8b0] | (simp only [i64_w, i32_w]; rw [c8b0]) | skip)
    have H' := Aside0.mk H
    clear H
    go_wp2
    go_meet
    case rel => exact ⟨_, (true), (by first | rfl | (simp; done) | (simp [*]; done) | (simp [ne_nil_B, eq_nil_B]; done)), H', ⟨by first | omega | exact Nat.le_refl _⟩, ⟨by repeat (first | (with_reducible first | exact HB.out | apply below_alloc | apply pw_below_drewN | apply below_drew1) | exact HB.out)⟩⟩
   ·rw [if_neg c8] at H
    have c8b0 : decide (40 < (a0.size : Int)) = false := decide_eq_false c8
    have c8b1 : decide (40 < a0.size) = false := decide_eq_false (by omega)
    clear c8
    (first | rw [c8b0] | (simp only [i64_w, i32_w]; rw [c8b0]) | skip)
    by_cases c9 : a1 < 0
    ·rw [if_pos c9] at H
     have c9b0 : decide (a1 < 0) = true := decide_eq_true c9
     clear c9
     have H' := Aside0.mk H
     clear H
     go_wp2
     go_meet
     case rel => exact ⟨_, (true), (by first | rfl | (simp; done) | (simp [*]; done) | (simp [ne_nil_B, eq_nil_B]; done)), H', ⟨by first | omega | exact Nat.le_refl _⟩, ⟨by repeat (first | (with_reducible first | exact HB.out | apply below_alloc | apply pw_below_drewN | apply below_drew1) | exact HB.out)⟩⟩
    ·rw [if_neg c9] at H
     have c9b0 : decide (a1 < 0) = false := decide_eq_false c9
     clear c9
     by_cases c10 : a1 > 99999
     ·rw [if_pos c10] at H
      have c10b0 : decide (99999 < a1) = true := decide_eq_true c10
      clear c10
      have H' := Aside0.mk H
      clear H
      go_wp2
      go_meet
      case rel => exact ⟨_, (true), (by first | rfl | (simp; done) | (simp [*]; done) | (simp [ne_nil_B, eq_nil_B]; done)), H', ⟨by first | omega | exact Nat.le_refl _⟩, ⟨by repeat (first | (with_reducible first | exact HB.out | apply below_alloc | apply pw_below_drewN | apply below_drew1) | exact HB.out)⟩⟩
     ·rw [if_neg c10] at H
      have c10b0 : decide (99999 < a1) = false := decide_eq_false c10
      clear c10
      by_cases c11 : a2 < 0
      ·rw [if_pos c11] at H
       have c11b0 : decide (a2 < 0) = true := decide_eq_true c11
       clear c11
       have H' := Aside0.mk H
       clear H
       go_wp2
       go_meet
       case rel => exact ⟨_, (true), (by first | rfl | (simp; done) | (simp [*]; done) | (simp [ne_nil_B, eq_nil_B]; done)), H', ⟨by first | omega | exact Nat.le_refl _⟩, ⟨by repeat (first | (with_reducible first | exact HB.out | apply below_alloc | apply pw_below_drewN | apply below_drew1) | exact HB.out)⟩⟩
      ·rw [if_neg c11] at H
       have c11b0 : decide (a2 < 0) = false := decide_eq_false c11
       clear c11
       have H' := Aside0.mk H
       clear H
       go_wp2
       go_meet
       case rel => exact ⟨_, (decide (a2 > 4)), (by first | rfl | (simp; done) | (simp [*]; done) | (simp [ne_nil_B, eq_nil_B]; done)), H', ⟨by first | omega | exact Nat.le_refl _⟩, ⟨by repeat (first | (with_reducible first | exact HB.out | apply below_alloc | apply pw_below_drewN | apply below_drew1) | exact HB.out)⟩⟩
  case rest =>
   clear HC6
   (try clear c1); (try clear p2); (try clear c5); (try clear c6); (try clear c8); (try clear c8b0); (try clear c8b1); (try clear c9); (try clear c9b0); (try clear c10); (try clear c10b0); (try clear c11); (try clear c11b0)
   obtain ⟨kq, x37_5, rfl, HA, HJ5, HB⟩ := hcut
   cases kq with
   | zero => exact absurd HA.out (by simp [pantrylaw08_PlacePorts.j0])
   | succ kj5 =>
    have H := HA.out
    clear HA
    simp only [pantrylaw08_PlacePorts.j0] at H
    by_cases c12 : x37_5 = true
    ·subst c12
     have H1 : (some true) = some r := by rw [if_pos rfl] at H; exact H
     clear H
     have H := H1
     clear H1
     obtain rfl := Option.some.inj H
     go_wp2
     go_ret
     exact ⟨by first | rfl | (simp <;> rfl) | (simp [*] <;> rfl) | (simp [ne_nil_B, eq_nil_B]; done) | (simp [ne_nil_B, eq_nil_B] <;> rfl), by repeat (first | (with_reducible first | exact HB.out | apply below_alloc | apply pw_below_drewN | apply below_drew1) | exact HB.out)⟩
    ·replace c12 := Bool.eq_false_iff.mpr c12
     subst c12
     have H1 : ((place_Host.f kj5 a0).bind fun bt569 => (if a0.size + 1 ≤ 9223372036854775807 then ((place_Host.f kj5 (a0 ++ (⟨#[58]⟩ : ByteArray))).bind fun bt571 => (if a0.size + 3 ≤ 9223372036854775807 then ((place_Host.f kj5 (a0 ++ (⟨#[58, 56, 48]⟩ : ByteArray))).bind fun bt573 => ((pantrylaw08_text.f kj5 a1).bind fun t575 => (pantrylaw08_PlacePorts.l0 kj5 a0 a1 bt569.1 bt569.2 bt571.1 bt571.2 bt573.1 bt573.2 t575 a2 0))) else (none))) else (none))) = some r := by rw [if_neg (show ¬ (false = true) by decide)] at H; exact H
     clear H
     have H := H1
     clear H1
     replace H := Option.bind_eq_some_iff.mp H
     obtain ⟨⟨t569, t570⟩, A130, H⟩ := H
     (try dsimp only at H)
     have A13 := Aside0.mk A130
     clear A130
     by_cases c14 : a0.size + 1 ≤ 9223372036854775807
     ·rw [if_pos c14] at H
      have c14b0 := eq_true c14
      have c14b1 : decide (a0.size + 1 ≤ 9223372036854775807) = true := decide_eq_true c14
      try have c14b2 : (9223372036854775807 < a0.size + 1) = False := eq_false (Nat.not_lt.2 c14)
      try (have c14b3 := c14b2; simp only [ByteArray.size_extract, ByteArray.size_append, Nat.min_self, Nat.sub_zero] at c14b3)
      replace H := Option.bind_eq_some_iff.mp H
      obtain ⟨⟨t571, t572⟩, A150, H⟩ := H
      (try dsimp only at H)
      have A15 := Aside0.mk A150
      clear A150
      by_cases c16 : a0.size + 3 ≤ 9223372036854775807
      ·rw [if_pos c16] at H
       have c16b0 := eq_true c16
       have c16b1 : decide (a0.size + 3 ≤ 9223372036854775807) = true := decide_eq_true c16
       try have c16b2 : (9223372036854775807 < a0.size + 3) = False := eq_false (Nat.not_lt.2 c16)
       try (have c16b3 := c16b2; simp only [ByteArray.size_extract, ByteArray.size_append, Nat.min_self, Nat.sub_zero] at c16b3)
       replace H := Option.bind_eq_some_iff.mp H
       obtain ⟨⟨t573, t574⟩, A170, H⟩ := H
       (try dsimp only at H)
       have A17 := Aside0.mk A170
       clear A170
       replace H := Option.bind_eq_some_iff.mp H
       obtain ⟨t575, A180, H⟩ := H
       (try dsimp only at H)
       have A18 := Aside0.mk A180
       clear A180
       have H' := Aside0.mk H
       clear H
       go_wp2_with (first | ((with_reducible refine gate_callee (f := 13) rfl ?_); refine goesL_ (some 40) rfl rfl Tryd.func13 (by kernel_rfl) rfl #[.string a0] rfl (by (try simp only [List.map_toArray, List.map_cons, List.map_nil]); first | done | rfl | (simp only [List.length_drop, List.length_take]; rfl)) ?_; (with_reducible refine (place_Host.calls kj5 a0 t569 t570 _ A13.out).mono ?_); rintro e w19 ⟨rfl, hb⟩; refine ⟨_, rfl, ?_⟩; have n0_ := Aside0.mk (below_step (by repeat (first | (with_reducible first | exact HB.out | apply below_alloc | apply pw_below_drewN | apply below_drew1) | exact HB.out)) hb); clear HB; have HB := n0_; clear n0_; (try clear hb); (try clear hb2); (try clear hk); (try clear hi)) | ((with_reducible refine gate_callee (f := 13) rfl ?_); refine goesL_ (some 46) rfl rfl Tryd.func13 (by kernel_rfl) rfl #[.string (a0 ++ (⟨#[58]⟩ : ByteArray))] rfl (by (try simp only [List.map_toArray, List.map_cons, List.map_nil]); first | done | rfl | (simp only [List.length_drop, List.length_take]; rfl)) ?_; (with_reducible refine (place_Host.calls kj5 (a0 ++ (⟨#[58]⟩ : ByteArray)) t571 t572 _ A15.out).mono ?_); rintro e w20 ⟨rfl, hb⟩; refine ⟨_, rfl, ?_⟩; have n0_ := Aside0.mk (below_step (by repeat (first | (with_reducible first | exact HB.out | apply below_alloc | apply pw_below_drewN | apply below_drew1) | exact HB.out)) hb); clear HB; have HB := n0_; clear n0_; (try clear hb); (try clear hb2); (try clear hk); (try clear hi)) | ((with_reducible refine gate_callee (f := 13) rfl ?_); refine goesL_ (some 52) rfl rfl Tryd.func13 (by kernel_rfl) rfl #[.string (a0 ++ (⟨#[58, 56, 48]⟩ : ByteArray))] rfl (by (try simp only [List.map_toArray, List.map_cons, List.map_nil]); first | done | rfl | (simp only [List.length_drop, List.length_take]; rfl)) ?_; (with_reducible refine (place_Host.calls kj5 (a0 ++ (⟨#[58, 56, 48]⟩ : ByteArray)) t573 t574 _ A17.out).mono ?_); rintro e w21 ⟨rfl, hb⟩; refine ⟨_, rfl, ?_⟩; have n0_ := Aside0.mk (below_step (by repeat (first | (with_reducible first | exact HB.out | apply below_alloc | apply pw_below_drewN | apply below_drew1) | exact HB.out)) hb); clear HB; have HB := n0_; clear n0_; (try clear hb); (try clear hb2); (try clear hk); (try clear hi)) | ((with_reducible refine gate_callee (f := 15) rfl ?_); refine goesL_ (some 56) rfl rfl Tryd.func15 (by kernel_rfl) rfl #[.int .i64 a1] rfl (by (try simp only [List.map_toArray, List.map_cons, List.map_nil]); first | done | rfl | (simp only [List.length_drop, List.length_take]; rfl)) ?_; (with_reducible refine (pantrylaw08_text.calls kj5 a1 t575 _ A18.out).mono ?_); rintro e w22 ⟨rfl, hb⟩; refine ⟨_, rfl, ?_⟩; have n0_ := Aside0.mk (below_step (by repeat (first | (with_reducible first | exact HB.out | apply below_alloc | apply pw_below_drewN | apply below_drew1) | exact HB.out)) hb); clear HB; have HB := n0_; clear n0_; (try clear hb); (try clear hb2); (try clear hk); (try clear hi)))
       go_loopg [13, 58] kj5 (fun kq v13 v58 w' => ∃ (x13_2 : ByteArray) (x58_2 : Int), v13 = .string x13_2 ∧ v58 = .int .i64 x58_2 ∧ Aside0 (pantrylaw08_PlacePorts.l0 kq a0 a1 t569 t570 t571 t572 t573 t574 x13_2 a2 x58_2 = some r) ∧ Aside0 (kq ≤ kj5) ∧ Aside0 (Below w.heap.size w w'))
       case atStart => exact ⟨(t575), (0), (by first | rfl | (simp; done) | (simp [*]; done) | (simp [ne_nil_B, eq_nil_B]; done)), (by first | rfl | (simp; done) | (simp [*]; done) | (simp [ne_nil_B, eq_nil_B]; done)), H', ⟨Nat.le_refl _⟩, ⟨by repeat (first | (with_reducible first | exact HB.out | apply below_alloc | apply pw_below_drewN | apply below_drew1) | exact HB.out)⟩⟩
       case round =>
        clear H'
        (try clear c1); (try clear p2); (try clear c5); (try clear c6); (try clear c8); (try clear c8b0); (try clear c8b1); (try clear c9); (try clear c9b0); (try clear c10); (try clear c10b0); (try clear c11); (try clear c11b0); (try clear c12); (try clear c13); (try clear c14); (try clear c14b0); (try clear c14b1); (try clear c14b2); (try clear c15); (try clear c16); (try clear c16b0); (try clear c16b1); (try clear c16b2); (try clear p2)
        obtain ⟨x13_2, x58_2, rfl, rfl, HA, HK2, HB⟩ := hrel
        cases gk with
        | zero => exact absurd HA.out (by simp [pantrylaw08_PlacePorts.l0])
        | succ k2 =>
         have H := HA.out
         clear HA
         simp only [pantrylaw08_PlacePorts.l0] at H
         by_cases c23 : x58_2 < a2
         ·rw [if_pos c23] at H
          have c23b0 : decide (x58_2 < a2) = true := decide_eq_true c23
          clear c23
          by_cases c24 : 1 + x13_2.size ≤ 9223372036854775807
          ·rw [if_pos c24] at H
           have c24b0 := eq_true c24
           have c24b1 : decide (1 + x13_2.size ≤ 9223372036854775807) = true := decide_eq_true c24
           try have c24b2 : (9223372036854775807 < 1 + x13_2.size) = False := eq_false (Nat.not_lt.2 c24)
           try (have c24b3 := c24b2; simp only [ByteArray.size_extract, ByteArray.size_append, Nat.min_self, Nat.sub_zero] at c24b3)
           have H' := Aside0.mk H
           clear H
           go_wp2
           go_roundg k2
           case measure => have := HJ5.out; have := HK2.out; omega
           case rel => exact ⟨((⟨#[48]⟩ : ByteArray) ++ x13_2), (wrap64 (x58_2 + 1)), (by first | rfl | (simp; done) | (simp [*]; done) | (simp [ne_nil_B, eq_nil_B]; done)), (by first | rfl | (simp; done) | (simp [*]; done) | (simp [ne_nil_B, eq_nil_B]; done)), H', ⟨by have := HJ5.out; have := HK2.out; omega⟩, ⟨by repeat (first | (with_reducible first | exact HB.out | apply below_alloc | apply pw_below_drewN | apply below_drew1) | exact HB.out)⟩⟩
          ·rw [if_neg c24] at H
           exact absurd H (by simp)
         ·rw [if_neg c23] at H
          have c23b0 : decide (x58_2 < a2) = false := decide_eq_false c23
          clear c23
          by_cases c25 : a0.size + 1 ≤ 9223372036854775807
          ·rw [if_pos c25] at H
           have c25b0 := eq_true c25
           have c25b1 : decide (a0.size + 1 ≤ 9223372036854775807) = true := decide_eq_true c25
           try have c25b2 : (9223372036854775807 < a0.size + 1) = False := eq_false (Nat.not_lt.2 c25)
           try (have c25b3 := c25b2; simp only [ByteArray.size_extract, ByteArray.size_append, Nat.min_self, Nat.sub_zero] at c25b3)
           by_cases c26 : (a0 ++ (⟨#[58]⟩ : ByteArray)).size + x13_2.size ≤ 9223372036854775807
           ·rw [if_pos c26] at H
            have c26b0 := eq_true c26
            have c26b1 : decide ((a0 ++ (⟨#[58]⟩ : ByteArray)).size + x13_2.size ≤ 9223372036854775807) = true := decide_eq_true c26
            try have c26b2 : (9223372036854775807 < (a0 ++ (⟨#[58]⟩ : ByteArray)).size + x13_2.size) = False := eq_false (Nat.not_lt.2 c26)
            try (have c26b3 := c26b2; simp only [ByteArray.size_extract, ByteArray.size_append, Nat.min_self, Nat.sub_zero, (show (⟨#[58]⟩ : ByteArray).size = 1 from rfl)] at c26b3)
            replace H := Option.bind_eq_some_iff.mp H
            obtain ⟨⟨t576, t577⟩, A270, H⟩ := H
            (try dsimp only at H)
            have A27 := Aside0.mk A270
            clear A270
            have H' := Aside0.mk H
            clear H
            go_wp2_with (first | ((with_reducible refine gate_callee (f := 13) rfl ?_); refine goesL_ (some 68) rfl rfl Tryd.func13 (by kernel_rfl) rfl #[.string ((a0 ++ (⟨#[58]⟩ : ByteArray)) ++ x13_2)] rfl (by (try simp only [List.map_toArray, List.map_cons, List.map_nil]); first | done | rfl | (simp only [List.length_drop, List.length_take]; rfl)) ?_; (with_reducible refine (place_Host.calls k2 ((a0 ++ (⟨#[58]⟩ : ByteArray)) ++ x13_2) t576 t577 _ A27.out).mono ?_); rintro e w28 ⟨rfl, hb⟩; refine ⟨_, rfl, ?_⟩; have n0_ := Aside0.mk (below_step (by repeat (first | (with_reducible first | exact HB.out | apply below_alloc | apply pw_below_drewN | apply below_drew1) | exact HB.out)) hb); clear HB; have HB := n0_; clear n0_; (try clear hb); (try clear hb2); (try clear hk); (try clear hi)))
            go_loopg [73] k2 (fun kq v73 w' => ∃ (x73_3 : Int), v73 = .int .i64 x73_3 ∧ Aside0 (pantrylaw08_PlacePorts.l1 kq a0 a1 t569 t570 t571 t572 t573 t574 x13_2 t576 t577 (a0.size : Int) x73_3 = some r) ∧ Aside0 (kq ≤ k2) ∧ Aside0 (Below w.heap.size w w'))
            case atStart => exact ⟨(0), (by first | rfl | (simp; done) | (simp [*]; done) | (simp [ne_nil_B, eq_nil_B]; done)), H', ⟨Nat.le_refl _⟩, ⟨by repeat (first | (with_reducible first | exact HB.out | apply below_alloc | apply pw_below_drewN | apply below_drew1) | exact HB.out)⟩⟩
            case round =>
             clear H'
             (try clear c1); (try clear c2); (try clear p2); (try clear c5); (try clear c6); (try clear p6); (try clear c8); (try clear c8b0); (try clear c8b1); (try clear c9); (try clear c9b0); (try clear c10); (try clear c10b0); (try clear c11); (try clear c11b0); (try clear c12); (try clear c13); (try clear c14); (try clear c14b0); (try clear c14b1); (try clear c14b2); (try clear c15); (try clear c16); (try clear c16b0); (try clear c16b1); (try clear c16b2); (try clear c23); (try clear c23b0); (try clear c24); (try clear c24b0); (try clear c24b1); (try clear c24b2); (try clear c25); (try clear c25b0); (try clear c25b1); (try clear c25b2); (try clear c26); (try clear c26b0); (try clear c26b1); (try clear c26b2); (try clear p2)
             obtain ⟨x73_3, rfl, HA, HK3, HB⟩ := hrel
             cases gk with
             | zero => exact absurd HA.out (by simp [pantrylaw08_PlacePorts.l1])
             | succ k3 =>
              have H := HA.out
              clear HA
              simp only [pantrylaw08_PlacePorts.l1] at H
              by_cases c29 : x73_3 < (a0.size : Int)
              ·rw [if_pos c29] at H
               have c29b0 : decide (x73_3 < (a0.size : Int)) = true := decide_eq_true c29
               clear c29
               by_cases c30 : 0 ≤ x73_3
               ·rw [if_pos c30] at H
                have c30b0 : decide (0 ≤ x73_3) = true := decide_eq_true c30
                clear c30
                by_cases c31 : x73_3 < (a0.size : Int)
                ·rw [if_pos c31] at H
                 have c31b0 : decide (x73_3 < (a0.size : Int)) = true := decide_eq_true c31
                 clear c31
                 by_cases c33 : (bt a0 x73_3) = 58
                 ·rw [if_pos c33] at H
                  have c33b0 : ((bt a0 x73_3) == 58) = true := beq_iff_eq.mpr c33
                  have c33b1 : ((bt a0 x73_3) != 58) = false := bne_eq_false_iff_eq.mpr c33
                  clear c33
                  obtain rfl := Option.some.inj H
                  have p32 : 0 ≤ (x73_3 : Int) := of_decide_eq_true (by assumption)
                  have q32 : x73_3 < (a0.size : Int) := of_decide_eq_true (by assumption)
                  have hx32 := bt_at a0 x73_3
                  replace p32 := eq_true p32
                  replace q32 := eq_true q32
                  go_wp2
                  go_ret
                  exact ⟨by first | rfl | (simp <;> rfl) | (simp [*] <;> rfl) | (simp [ne_nil_B, eq_nil_B]; done) | (simp [ne_nil_B, eq_nil_B] <;> rfl), by repeat (first | (with_reducible first | exact HB.out | apply below_alloc | apply pw_below_drewN | apply below_drew1) | exact HB.out)⟩
                 ·rw [if_neg c33] at H
                  have c33b0 : ((bt a0 x73_3) == 58) = false := beq_eq_false_iff_ne.mpr c33
                  have c33b1 : ((bt a0 x73_3) != 58) = true := bne_iff_ne.mpr c33
                  have H' := Aside0.mk H
                  clear H
                  have p32 : 0 ≤ (x73_3 : Int) := of_decide_eq_true (by assumption)
                  have q32 : x73_3 < (a0.size : Int) := of_decide_eq_true (by assumption)
                  have hx32 := bt_at a0 x73_3
                  replace p32 := eq_true p32
                  replace q32 := eq_true q32
                  go_wp2
                  go_roundg k3
                  case measure => have := HJ5.out; have := HK2.out; have := HK3.out; omega
                  case rel => exact ⟨(wrap64 (x73_3 + 1)), (by first | rfl | (simp; done) | (simp [*]; done) | (simp [ne_nil_B, eq_nil_B]; done)), H', ⟨by have := HJ5.out; have := HK2.out; have := HK3.out; omega⟩, ⟨by repeat (first | (with_reducible first | exact HB.out | apply below_alloc | apply pw_below_drewN | apply below_drew1) | exact HB.out)⟩⟩
                ·rw [if_neg c31] at H
                 exact absurd H (by simp)
               ·rw [if_neg c30] at H
                exact absurd H (by simp)
              ·rw [if_neg c29] at H
               have c29b0 : decide (x73_3 < (a0.size : Int)) = false := decide_eq_false c29
               clear c29
               by_cases c34 : t570 = 0
               ·rw [if_pos c34] at H
                have c34b0 : (t570 == 0) = true := beq_iff_eq.mpr c34
                have c34b1 : (t570 != 0) = false := bne_eq_false_iff_eq.mpr c34
                clear c34
                have HC35 := Aside0.mk H
                clear H
                go_upto_region 22 with (fail)
                go_cut [108] (fun v108 wc => ∃ (kq : Nat) (x108_34 : Bool), v108 = .bool x108_34 ∧ Aside0 (pantrylaw08_PlacePorts.j3 kq a1 t569 x13_2 t576 t577 x108_34 = some r) ∧ Aside0 (kq ≤ k3) ∧ Aside0 (Below w.heap.size w wc))
                case first =>
                 have H := HC35.out
                 clear HC35
                 by_cases c36 : t569.toList = t571.toList
                 ·rw [if_pos c36] at H
                  have c36b0 : (t569.toList == t571.toList) = true := beq_iff_eq.mpr c36
                  have c36b1 : (t569.toList != t571.toList) = false := bne_eq_false_iff_eq.mpr c36
                  clear c36
                  (first | rw [c36b0] | (simp only [i64_w, i32_w]; rw [c36b0]) | skip)
                  by_cases c37 : t569.toList = t573.toList
                  ·rw [if_pos c37] at H
                   have c37b0 : (t569.toList == t573.toList) = true := beq_iff_eq.mpr c37
                   have c37b1 : (t569.toList != t573.toList) = false := bne_eq_false_iff_eq.mpr c37
                   clear c37
                   by_cases c38 : t572 = 0
                   ·rw [if_pos c38] at H
                    have c38b0 : (t572 == 0) = true := beq_iff_eq.mpr c38
                    have c38b1 : (t572 != 0) = false := bne_eq_false_iff_eq.mpr c38
                    clear c38
                    have H' := Aside0.mk H
                    clear H
                    go_wp2
                    go_meet
                    case rel => exact ⟨_, ((t574 != 0)), (by first | rfl | (simp; done) | (simp [*]; done) | (simp [ne_nil_B, eq_nil_B]; done)), H', ⟨by have := HJ5.out; have := HK2.out; have := HK3.out; first | omega | exact Nat.le_refl _⟩, ⟨by repeat (first | (with_reducible first | exact HB.out | apply below_alloc | apply pw_below_drewN | apply below_drew1) | exact HB.out)⟩⟩
                   ·rw [if_neg c38] at H
                    have c38b0 : (t572 == 0) = false := beq_eq_false_iff_ne.mpr c38
                    have c38b1 : (t572 != 0) = true := bne_iff_ne.mpr c38
                    have H' := Aside0.mk H
                    clear H
                    go_wp2
                    go_meet
                    case rel => exact ⟨_, (true), (by first | rfl | (simp; done) | (simp [*]; done) | (simp [ne_nil_B, eq_nil_B]; done)), H', ⟨by have := HJ5.out; have := HK2.out; have := HK3.out; first | omega | exact Nat.le_refl _⟩, ⟨by repeat (first | (with_reducible first | exact HB.out | apply below_alloc | apply pw_below_drewN | apply below_drew1) | exact HB.out)⟩⟩
                  ·rw [if_neg c37] at H
                   have c37b0 : (t569.toList == t573.toList) = false := beq_eq_false_iff_ne.mpr c37
                   have c37b1 : (t569.toList != t573.toList) = true := bne_iff_ne.mpr c37
                   have H' := Aside0.mk H
                   clear H
                   go_wp2
                   go_meet
                   case rel => exact ⟨_, (true), (by first | rfl | (simp; done) | (simp [*]; done) | (simp [ne_nil_B, eq_nil_B]; done)), H', ⟨by have := HJ5.out; have := HK2.out; have := HK3.out; first | omega | exact Nat.le_refl _⟩, ⟨by repeat (first | (with_reducible first | exact HB.out | apply below_alloc | apply pw_below_drewN | apply below_drew1) | exact HB.out)⟩⟩
                 ·rw [if_neg c36] at H
                  have c36b0 : (t569.toList == t571.toList) = false := beq_eq_false_iff_ne.mpr c36
                  have c36b1 : (t569.toList != t571.toList) = true := bne_iff_ne.mpr c36
                  (first | rw [c36b0] | (simp only [i64_w, i32_w]; rw [c36b0]) | skip)
                  have H' := Aside0.mk H
                  clear H
                  go_wp2
                  go_meet
                  case rel => exact ⟨_, (true), (by first | rfl | (simp; done) | (simp [*]; done) | (simp [ne_nil_B, eq_nil_B]; done)), H', ⟨by have := HJ5.out; have := HK2.out; have := HK3.out; first | omega | exact Nat.le_refl _⟩, ⟨by repeat (first | (with_reducible first | exact HB.out | apply below_alloc | apply pw_below_drewN | apply below_drew1) | exact HB.out)⟩⟩
                case rest =>
                 clear HC35
                 (try clear c1); (try clear c2); (try clear p2); (try clear c3); (try clear p3); (try clear q3); (try clear hx3); (try clear c5); (try clear c6); (try clear p6); (try clear c8); (try clear c8b0); (try clear c8b1); (try clear c9); (try clear c9b0); (try clear c10); (try clear c10b0); (try clear c11); (try clear c11b0); (try clear c12); (try clear c13); (try clear c14); (try clear c14b0); (try clear c14b1); (try clear c14b2); (try clear c15); (try clear c16); (try clear c16b0); (try clear c16b1); (try clear c16b2); (try clear c23); (try clear c23b0); (try clear c24); (try clear c24b0); (try clear c24b1); (try clear c24b2); (try clear c25); (try clear c25b0); (try clear c25b1); (try clear c25b2); (try clear c26); (try clear c26b0); (try clear c26b1); (try clear c26b2); (try clear c29); (try clear c29b0); (try clear c30); (try clear c30b0); (try clear c31); (try clear c31b0); (try clear p32); (try clear q32); (try clear hx32); (try clear c33); (try clear c33b0); (try clear c33b1); (try clear c34); (try clear c34b0); (try clear c34b1); (try clear c36); (try clear c36b0); (try clear c36b1); (try clear c37); (try clear c37b0); (try clear c37b1); (try clear c38); (try clear c38b0); (try clear c38b1); (try clear p2); (try clear p32); (try clear p6); (try clear q32)
                 obtain ⟨kq, x108_34, rfl, HA, HJ34, HB⟩ := hcut
                 cases kq with
                 | zero => exact absurd HA.out (by simp [pantrylaw08_PlacePorts.j3])
                 | succ kj34 =>
                  have H := HA.out
                  clear HA
                  simp only [pantrylaw08_PlacePorts.j3] at H
                  by_cases c39 : x108_34 = true
                  ·subst c39
                   have H1 : (some false) = some r := by rw [if_pos rfl] at H; exact H
                   clear H
                   have H := H1
                   clear H1
                   obtain rfl := Option.some.inj H
                   go_wp2
                   go_ret
                   exact ⟨by first | rfl | (simp <;> rfl) | (simp [*] <;> rfl) | (simp [ne_nil_B, eq_nil_B]; done) | (simp [ne_nil_B, eq_nil_B] <;> rfl), by repeat (first | (with_reducible first | exact HB.out | apply below_alloc | apply pw_below_drewN | apply below_drew1) | exact HB.out)⟩
                  ·replace c39 := Bool.eq_false_iff.mpr c39
                   subst c39
                   have H1 : (if (x13_2.size : Int) > 5 then (some (t577 == 25)) else (if t577 = 0 then (if a1 = 80 then (if t576.toList = t569.toList then (some true) else (some false)) else (if t569.size + 1 ≤ 9223372036854775807 then ((pantrylaw08_text.f kj34 a1).bind fun t578 => (if (t569 ++ (⟨#[58]⟩ : ByteArray)).size + t578.size ≤ 9223372036854775807 then (some (t576.toList == ((t569 ++ (⟨#[58]⟩ : ByteArray)) ++ t578).toList)) else (none))) else (none))) else (some false))) = some r := by rw [if_neg (show ¬ (false = true) by decide)] at H; exact H
                   clear H
                   have H := H1
                   clear H1
                   by_cases c40 : (x13_2.size : Int) > 5
                   ·rw [if_pos c40] at H
                    have c40b0 : decide (5 < (x13_2.size : Int)) = true := decide_eq_true c40
                    have c40b1 : decide (5 < x13_2.size) = true := decide_eq_true (by omega)
                    clear c40
                    obtain rfl := Option.some.inj H
                    go_wp2
                    go_ret
                    exact ⟨by first | rfl | (simp <;> rfl) | (simp [*] <;> rfl) | (simp [ne_nil_B, eq_nil_B]; done) | (simp [ne_nil_B, eq_nil_B] <;> rfl), by repeat (first | (with_reducible first | exact HB.out | apply below_alloc | apply pw_below_drewN | apply below_drew1) | exact HB.out)⟩
                   ·rw [if_neg c40] at H
                    have c40b0 : decide (5 < (x13_2.size : Int)) = false := decide_eq_false c40
                    have c40b1 : decide (5 < x13_2.size) = false := decide_eq_false (by omega)
                    clear c40
                    by_cases c41 : t577 = 0
                    ·rw [if_pos c41] at H
                     have c41b0 : (t577 == 0) = true := beq_iff_eq.mpr c41
                     have c41b1 : (t577 != 0) = false := bne_eq_false_iff_eq.mpr c41
                     clear c41
                     by_cases c42 : a1 = 80
                     ·rw [if_pos c42] at H
                      have c42b0 : (a1 == 80) = true := beq_iff_eq.mpr c42
                      have c42b1 : (a1 != 80) = false := bne_eq_false_iff_eq.mpr c42
                      clear c42
                      by_cases c43 : t576.toList = t569.toList
                      ·rw [if_pos c43] at H
                       have c43b0 : (t576.toList == t569.toList) = true := beq_iff_eq.mpr c43
                       have c43b1 : (t576.toList != t569.toList) = false := bne_eq_false_iff_eq.mpr c43
                       clear c43
                       obtain rfl := Option.some.inj H
                       go_wp2
                       go_ret
                       exact ⟨by first | rfl | (simp <;> rfl) | (simp [*] <;> rfl) | (simp [ne_nil_B, eq_nil_B]; done) | (simp [ne_nil_B, eq_nil_B] <;> rfl), by repeat (first | (with_reducible first | exact HB.out | apply below_alloc | apply pw_below_drewN | apply below_drew1) | exact HB.out)⟩
                      ·rw [if_neg c43] at H
                       have c43b0 : (t576.toList == t569.toList) = false := beq_eq_false_iff_ne.mpr c43
                       have c43b1 : (t576.toList != t569.toList) = true := bne_iff_ne.mpr c43
                       obtain rfl := Option.some.inj H
                       go_wp2
                       go_ret
                       exact ⟨by first | rfl | (simp <;> rfl) | (simp [*] <;> rfl) | (simp [ne_nil_B, eq_nil_B]; done) | (simp [ne_nil_B, eq_nil_B] <;> rfl), by repeat (first | (with_reducible first | exact HB.out | apply below_alloc | apply pw_below_drewN | apply below_drew1) | exact HB.out)⟩
                     ·rw [if_neg c42] at H
                      have c42b0 : (a1 == 80) = false := beq_eq_false_iff_ne.mpr c42
                      have c42b1 : (a1 != 80) = true := bne_iff_ne.mpr c42
                      by_cases c44 : t569.size + 1 ≤ 9223372036854775807
                      ·rw [if_pos c44] at H
                       have c44b0 := eq_true c44
                       have c44b1 : decide (t569.size + 1 ≤ 9223372036854775807) = true := decide_eq_true c44
                       try have c44b2 : (9223372036854775807 < t569.size + 1) = False := eq_false (Nat.not_lt.2 c44)
                       try (have c44b3 := c44b2; simp only [ByteArray.size_extract, ByteArray.size_append, Nat.min_self, Nat.sub_zero] at c44b3)
                       replace H := Option.bind_eq_some_iff.mp H
                       obtain ⟨t578, A450, H⟩ := H
                       (try dsimp only at H)
                       have A45 := Aside0.mk A450
                       clear A450
                       by_cases c46 : (t569 ++ (⟨#[58]⟩ : ByteArray)).size + t578.size ≤ 9223372036854775807
                       ·rw [if_pos c46] at H
                        have c46b0 := eq_true c46
                        have c46b1 : decide ((t569 ++ (⟨#[58]⟩ : ByteArray)).size + t578.size ≤ 9223372036854775807) = true := decide_eq_true c46
                        try have c46b2 : (9223372036854775807 < (t569 ++ (⟨#[58]⟩ : ByteArray)).size + t578.size) = False := eq_false (Nat.not_lt.2 c46)
                        try (have c46b3 := c46b2; simp only [ByteArray.size_extract, ByteArray.size_append, Nat.min_self, Nat.sub_zero, (show (⟨#[58]⟩ : ByteArray).size = 1 from rfl)] at c46b3)
                        obtain rfl := Option.some.inj H
                        go_wp2_with (first | (go_at_call 15; (with_reducible refine (pantrylaw08_text.calls kj34 a1 t578 _ A45.out).mono ?_); rintro e w47 ⟨rfl, hb⟩; have n0_ := Aside0.mk (below_step (by repeat (first | (with_reducible first | exact HB.out | apply below_alloc | apply pw_below_drewN | apply below_drew1) | exact HB.out)) hb); clear HB; have HB := n0_; clear n0_; (try clear hb); (try clear hb2); (try clear hk); (try clear hi)))
                        go_ret
                        exact ⟨by first | rfl | (simp <;> rfl) | (simp [*] <;> rfl) | (simp [ne_nil_B, eq_nil_B]; done) | (simp [ne_nil_B, eq_nil_B] <;> rfl), by repeat (first | (with_reducible first | exact HB.out | apply below_alloc | apply pw_below_drewN | apply below_drew1) | exact HB.out)⟩
                       ·rw [if_neg c46] at H
                        exact absurd H (by simp)
                      ·rw [if_neg c44] at H
                       exact absurd H (by simp)
                    ·rw [if_neg c41] at H
                     have c41b0 : (t577 == 0) = false := beq_eq_false_iff_ne.mpr c41
                     have c41b1 : (t577 != 0) = true := bne_iff_ne.mpr c41
                     obtain rfl := Option.some.inj H
                     go_wp2
                     go_ret
                     exact ⟨by first | rfl | (simp <;> rfl) | (simp [*] <;> rfl) | (simp [ne_nil_B, eq_nil_B]; done) | (simp [ne_nil_B, eq_nil_B] <;> rfl), by repeat (first | (with_reducible first | exact HB.out | apply below_alloc | apply pw_below_drewN | apply below_drew1) | exact HB.out)⟩
               ·rw [if_neg c34] at H
                have c34b0 : (t570 == 0) = false := beq_eq_false_iff_ne.mpr c34
                have c34b1 : (t570 != 0) = true := bne_iff_ne.mpr c34
                by_cases c48 : t572 = 0
                ·rw [if_pos c48] at H
                 have c48b0 : (t572 == 0) = true := beq_iff_eq.mpr c48
                 have c48b1 : (t572 != 0) = false := bne_eq_false_iff_eq.mpr c48
                 clear c48
                 obtain rfl := Option.some.inj H
                 go_wp2
                 go_ret
                 exact ⟨by first | rfl | (simp <;> rfl) | (simp [*] <;> rfl) | (simp [ne_nil_B, eq_nil_B]; done) | (simp [ne_nil_B, eq_nil_B] <;> rfl), by repeat (first | (with_reducible first | exact HB.out | apply below_alloc | apply pw_below_drewN | apply below_drew1) | exact HB.out)⟩
                ·rw [if_neg c48] at H
                 have c48b0 : (t572 == 0) = false := beq_eq_false_iff_ne.mpr c48
                 have c48b1 : (t572 != 0) = true := bne_iff_ne.mpr c48
                 by_cases c49 : t574 = 0
                 ·rw [if_pos c49] at H
                  have c49b0 : (t574 == 0) = true := beq_iff_eq.mpr c49
                  have c49b1 : (t574 != 0) = false := bne_eq_false_iff_eq.mpr c49
                  clear c49
                  obtain rfl := Option.some.inj H
                  go_wp2
                  go_ret
                  exact ⟨by first | rfl | (simp <;> rfl) | (simp [*] <;> rfl) | (simp [ne_nil_B, eq_nil_B]; done) | (simp [ne_nil_B, eq_nil_B] <;> rfl), by repeat (first | (with_reducible first | exact HB.out | apply below_alloc | apply pw_below_drewN | apply below_drew1) | exact HB.out)⟩
                 ·rw [if_neg c49] at H
                  have c49b0 : (t574 == 0) = false := beq_eq_false_iff_ne.mpr c49
                  have c49b1 : (t574 != 0) = true := bne_iff_ne.mpr c49
                  obtain rfl := Option.some.inj H
                  go_wp2
                  go_ret
                  exact ⟨by first | rfl | (simp <;> rfl) | (simp [*] <;> rfl) | (simp [ne_nil_B, eq_nil_B]; done) | (simp [ne_nil_B, eq_nil_B] <;> rfl), by repeat (first | (with_reducible first | exact HB.out | apply below_alloc | apply pw_below_drewN | apply below_drew1) | exact HB.out)⟩
           ·rw [if_neg c26] at H
            exact absurd H (by simp)
          ·rw [if_neg c25] at H
           exact absurd H (by simp)
      ·rw [if_neg c16] at H
       exact absurd H (by simp)
     ·rw [if_neg c14] at H
      exact absurd H (by simp)
 ·replace c5 := Bool.eq_false_iff.mpr c5
  subst c5
  have H1 : (some false) = some r := by rw [if_neg (show ¬ (false = true) by decide)] at H; exact H
  clear H
  have H := H1
  clear H1
  obtain rfl := Option.some.inj H
  go_enter Tryd.func6, Tryd.ntmps6
  go_wp2_with (first | ((with_reducible refine gate_callee (f := 10) rfl ?_); refine goesL_ (some 17) rfl rfl Tryd.func10 (by kernel_rfl) rfl #[] rfl (by (try simp only [List.map_toArray, List.map_cons, List.map_nil]); first | done | rfl | (simp only [List.length_drop, List.length_take]; rfl)) ?_; (with_reducible refine (pantrylaw08_anchor.calls k  false _ A4.out).mono ?_); rintro e w50 ⟨rfl, hb⟩; refine ⟨_, rfl, ?_⟩; have n0_ := Aside0.mk (below_step (by repeat (first | (with_reducible first | exact HB.out | apply below_alloc | apply pw_below_drewN | apply below_drew1) | exact HB.out)) hb); clear HB; have HB := n0_; clear n0_; (try clear hb); (try clear hb2); (try clear hk); (try clear hi)))
  go_ret
  exact ⟨by first | rfl | (simp <;> rfl) | (simp [*] <;> rfl) | (simp [ne_nil_B, eq_nil_B]; done) | (simp [ne_nil_B, eq_nil_B] <;> rfl), by repeat (first | (with_reducible first | exact HB.out | apply below_alloc | apply pw_below_drewN | apply below_drew1) | exact HB.out)⟩
end Go.Proofs.YtgkgljendffhlaaDoor.P
