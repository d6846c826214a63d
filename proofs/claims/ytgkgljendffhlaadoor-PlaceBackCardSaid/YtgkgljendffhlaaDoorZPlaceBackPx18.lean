import Derived.Test.YtgkgljendffhlaaDoorZPlaceBackPx0
import Derived.Test.YtgkgljendffhlaaDoorZPlaceBackPx1
import Derived.Test.YtgkgljendffhlaaDoorZPlaceBackPx6
import Derived.Test.YtgkgljendffhlaaDoorZPlaceBackPx17
namespace Go.Proofs.YtgkgljendffhlaaDoor.P
open Go.RowKit Go.Proofs.YtgkgljendffhlaaDoorW.PrintWords Go.Proofs.YtgkgljendffhlaaDoorW.PrintLast Go.Proofs.YtgkgljendffhlaaDoorW.PrintMore
attribute [local go_sem] max2_int min2_int max_two min_two max_three min_three max_four min_four u8_div16 u8_mod16
set_option linter.unusedVariables false
set_option linter.unusedSimpArgs false
attribute [local go_sem high] eqA24
/-! ### pantrylaw08_PlaceBack: function 9 -/
def pantrylaw08_PlaceBack.j0 : Nat → ByteArray → ByteArray → Bool → Option (Bool)
 | 0, _, _, _ => none
 | k + 1, x0, x1, x20 => if x20 = true then (some true) else ((place_Read.f k x0 x1).bind fun bt609 => (if bt609.2.2.2.2 = 0 then ((place_Place_Show.f bt609.1 bt609.2.1 bt609.2.2.1 bt609.2.2.2.1).bind fun t615 => ((place_Read.f k t615 bt609.1).bind fun bt616 => (if 7 + bt609.1.size ≤ 9223372036854775807 then ((place_Place_Show.f bt609.1 bt609.2.1 bt609.2.2.1 bt609.2.2.2.1).bind fun t622 => (if ((⟨#[72, 84, 84, 80, 58, 47, 47]⟩ : ByteArray) ++ bt609.1).size + t622.size ≤ 9223372036854775807 then ((place_Read.f k (((⟨#[72, 84, 84, 80, 58, 47, 47]⟩ : ByteArray) ++ bt609.1) ++ t622) (⟨#[]⟩ : ByteArray)).bind fun bt623 => (if bt616.2.2.2.2 = 0 then (if bt623.2.2.2.2 = 0 then (if (bt616.1.toList == bt609.1.toList && (bt616.2.1.toList == bt609.2.1.toList && (bt616.2.2.1.toList == bt609.2.2.1.toList && (bt616.2.2.2.1 == bt609.2.2.2.1)))) = true then (some (bt623.1.toList == bt609.1.toList && (bt623.2.1.toList == bt609.2.1.toList && (bt623.2.2.1.toList == bt609.2.2.1.toList && (bt623.2.2.2.1 == bt609.2.2.2.1))))) else (some false)) else (some false)) else (some false))) else (none))) else (none)))) else (some true)))
def pantrylaw08_PlaceBack.f (k : Nat) (a0 : ByteArray) (a1 : ByteArray) : Option (Bool) := (pantrylaw08_anchor.f k).bind fun t608 => (if t608 = true then (if (a0.size : Int) > 1500 then (pantrylaw08_PlaceBack.j0 k a0 a1 true) else (pantrylaw08_PlaceBack.j0 k a0 a1 (decide ((a1.size : Int) > 200)))) else (some false))
def pantrylaw08_PlaceBack.T8 : Bool × List (List Nat × List Nat) := (true, [([], []), ([0], [0]), ([], []), ([2], [2]), ([1, 3, 1], [1, 3]), ([4], [4]), ([5], [5]), ([5], [5]), ([], []), ([8, 6, 4, 0, 1, 2, 3, 4, 5, 6, 8], [6, 8]), ([7, 9, 0, 1, 2, 3, 4, 5, 6, 7, 8, 9], [7])])
def pantrylaw08_PlaceBack.B8 : List Nat := [0, 1, 0, 4, 15, 31, 63, 63, 0, 383, 1023]
theorem pantrylaw08_PlaceBack.tab8 : rtab .any (opsOf Tryd.f9 8) = pantrylaw08_PlaceBack.T8 := by kernel_rfl
theorem pantrylaw08_PlaceBack.bits8 : waitsOk pantrylaw08_PlaceBack.T8.2 pantrylaw08_PlaceBack.B8 = true := by kernel_rfl
def pantrylaw08_PlaceBack.T9 : Bool × List (List Nat × List Nat) := (true, [([], []), ([0], [0]), ([1], [1]), ([], []), ([3], [3]), ([2, 4], [2, 4]), ([5, 4], [5]), ([6], [6]), ([7], [7]), ([7], [7]), ([], []), ([10, 8, 6, 0, 1, 2, 3, 4, 5, 6, 7, 8, 10], [8, 10]), ([9, 11, 0, 1, 2, 3, 4, 5, 6, 7, 8, 9, 10, 11], [9])])
def pantrylaw08_PlaceBack.B9 : List Nat := [0, 1, 3, 0, 8, 31, 63, 127, 255, 255, 0, 1535, 4095]
theorem pantrylaw08_PlaceBack.tab9 : rtab .any (opsOf Tryd.f9 9) = pantrylaw08_PlaceBack.T9 := by kernel_rfl
theorem pantrylaw08_PlaceBack.bits9 : waitsOk pantrylaw08_PlaceBack.T9.2 pantrylaw08_PlaceBack.B9 = true := by kernel_rfl
set_option maxHeartbeats 8000000 in
set_option maxRecDepth 100000 in
theorem pantrylaw08_PlaceBack.calls (k : Nat) (a0 : ByteArray) (a1 : ByteArray) (r : Bool) (w : World) (h : pantrylaw08_PlaceBack.f k a0 a1 = some r) (hG : GW w := by first | (exact Aside0.out (by assumption)) | (refine GW.via (by assumption) ?_; repeat (first | (exact Aside0.out (by assumption)) | exact Below.refl _ _ | apply below_alloc | apply pw_below_drewN | apply below_drew1 | (refine below_set ?_ (Aside0.out (by assumption)))))) :
  Calls Tryd.prog 9 #[.string a0, .string a1] w fun e w' => e = .returned (.bool r) ∧ Below w.heap.size w w' := by
 have hu24 := Tryd.underlying24
 have HB := Aside0.mk (Below.refl w.heap.size w)
 have HG := Aside0.mk hG
 clear hG
 have H : ((pantrylaw08_anchor.f k).bind fun t608 => (if t608 = true then (if (a0.size : Int) > 1500 then (pantrylaw08_PlaceBack.j0 k a0 a1 true) else (pantrylaw08_PlaceBack.j0 k a0 a1 (decide ((a1.size : Int) > 200)))) else (some false))) = some r := h
 clear h
 replace H := Option.bind_eq_some_iff.mp H
 obtain ⟨t608, A30, H⟩ := H
 (try dsimp only at H)
 have A3 := Aside0.mk A30
 clear A30
 by_cases c4 : t608 = true
 ·subst c4
  have H1 : (if (a0.size : Int) > 1500 then (pantrylaw08_PlaceBack.j0 k a0 a1 true) else (pantrylaw08_PlaceBack.j0 k a0 a1 (decide ((a1.size : Int) > 200)))) = some r := by rw [if_pos rfl] at H; exact H
  clear H
  have H := H1
  clear H1
  have HC5 := Aside0.mk H
  clear H
  go_enter Tryd.func9, Tryd.ntmps9
  go_upto_region 3 with (first | ((with_reducible refine gate_callee (f := 10) rfl ?_); refine goesL_ (some 11) rfl rfl Tryd.func10 (by kernel_rfl) rfl #[] rfl (by (try simp only [List.map_toArray, List.map_cons, List.map_nil]); first | done | rfl | (simp only [List.length_drop, List.length_take]; rfl)) ?_; (with_reducible refine (pantrylaw08_anchor.calls k  true _ A3.out).mono ?_); rintro e w6 ⟨rfl, hb⟩; refine ⟨_, rfl, ?_⟩; have n0_ := Aside0.mk (below_step (by repeat (first | (with_reducible first | exact HB.out | apply below_alloc | apply pw_below_drewN | apply below_drew1) | exact HB.out)) hb); clear HB; have HB := n0_; clear n0_; (try clear hb); (try clear hb2); (try clear hk); (try clear hi)))
  (try simp only [Act.put, List.setIfInBounds_toArray, List.set_cons_zero, List.set_cons_succ])
  go_cut [20] (fun v20 wc => ∃ (kq : Nat) (x20_4 : Bool), v20 = .bool x20_4 ∧ Aside0 (pantrylaw08_PlaceBack.j0 kq a0 a1 x20_4 = some r) ∧ Aside0 (kq ≤ k) ∧ Aside0 (Below w.heap.size w wc))
  case first =>
   have H := HC5.out
   clear HC5
   by_cases c7 : (a0.size : Int) > 1500
   ·rw [if_pos c7] at H
    have c7b0 : decide (1500 < (a0.size : Int)) = true := decide_eq_true c7
    have c7b1 : decide (1500 < a0.size) = true := decide_eq_true (by omega)
    clear c7
    (first | rw [c7b0] | (simp only [i64_w, i32_w]; rw [c7b0]) | skip)
    have H' := Aside0.mk H
    clear H
    go_wp2
    go_meet
    case rel => exact ⟨_, (true), (by first | rfl | (simp; done) | (simp [*]; done) | (simp [ne_nil_B, eq_nil_B]; done)), H', ⟨by first | omega | exact Nat.le_refl _⟩, ⟨by repeat (first | (with_reducible first | exact HB.out | apply below_alloc | apply pw_below_drewN | apply below_drew1) | exact HB.out)⟩⟩
   ·rw [if_neg c7] at H
    have c7b0 : decide (1500 < (a0.size : Int)) = false := decide_eq_false c7
    have c7b1 : decide (1500 < a0.size) = false := decide_eq_false (by omega)
    clear c7
    (first | rw [c7b0] | (simp only [i64_w, i32_w]; rw [c7b0]) | skip)
    have H' := Aside0.mk H
    clear H
    go_wp2
    go_meet
    case rel => exact ⟨_, (decide ((a1.size : Int) > 200)), (by first | rfl | (simp; done) | (simp [*]; done) | (simp [ne_nil_B, eq_nil_B]; done)), H', ⟨by first | omega | exact Nat.le_refl _⟩, ⟨by repeat (first | (with_reducible first | exact HB.out | apply below_alloc | apply pw_below_drewN | apply below_drew1) | exact HB.out)⟩⟩
  case rest =>
   clear HC5
   (try clear c1); (try clear p2); (try clear c4); (try clear c7); (try clear c7b0); (try clear c7b1)
   obtain ⟨kq, x20_4, rfl, HA, HJ4, HB⟩ := hcut
   cases kq with
   | zero => exact absurd HA.out (by simp [pantrylaw08_PlaceBack.j0])
   | succ kj4 =>
    have H := HA.out
    clear HA
    simp only [pantrylaw08_PlaceBack.j0] at H
    by_cases c8 : x20_4 = true
    ·subst c8
     have H1 : (some true) = some r := by rw [if_pos rfl] at H; exact H
     clear H
     have H := H1
     clear H1
     obtain rfl := Option.some.inj H
     go_wp2
     all_goals first | (go_ret; refine ⟨?_, ?_⟩; (first | rfl | (simp <;> rfl) | (simp [*] <;> rfl) | (simp [ne_nil_B, eq_nil_B]; done) | (simp [ne_nil_B, eq_nil_B] <;> rfl)); (repeat (first | (with_reducible first | exact HB.out | apply below_alloc | apply pw_below_drewN | apply below_drew1) | exact HB.out)); done) | (exfalso; (try clear c19b1); (try clear c19b2); (try clear c19b3); revert c19b0; simp [*]; done)
    ·replace c8 := Bool.eq_false_iff.mpr c8
     subst c8
     have H1 : ((place_Read.f kj4 a0 a1).bind fun bt609 => (if bt609.2.2.2.2 = 0 then ((place_Place_Show.f bt609.1 bt609.2.1 bt609.2.2.1 bt609.2.2.2.1).bind fun t615 => ((place_Read.f kj4 t615 bt609.1).bind fun bt616 => (if 7 + bt609.1.size ≤ 9223372036854775807 then ((place_Place_Show.f bt609.1 bt609.2.1 bt609.2.2.1 bt609.2.2.2.1).bind fun t622 => (if ((⟨#[72, 84, 84, 80, 58, 47, 47]⟩ : ByteArray) ++ bt609.1).size + t622.size ≤ 9223372036854775807 then ((place_Read.f kj4 (((⟨#[72, 84, 84, 80, 58, 47, 47]⟩ : ByteArray) ++ bt609.1) ++ t622) (⟨#[]⟩ : ByteArray)).bind fun bt623 => (if bt616.2.2.2.2 = 0 then (if bt623.2.2.2.2 = 0 then (if (bt616.1.toList == bt609.1.toList && (bt616.2.1.toList == bt609.2.1.toList && (bt616.2.2.1.toList == bt609.2.2.1.toList && (bt616.2.2.2.1 == bt609.2.2.2.1)))) = true then (some (bt623.1.toList == bt609.1.toList && (bt623.2.1.toList == bt609.2.1.toList && (bt623.2.2.1.toList == bt609.2.2.1.toList && (bt623.2.2.2.1 == bt609.2.2.2.1))))) else (some false)) else (some false)) else (some false))) else (none))) else (none)))) else (some true))) = some r := by rw [if_neg (show ¬ (false = true) by decide)] at H; exact H
     clear H
     have H := H1
     clear H1
     replace H := Option.bind_eq_some_iff.mp H
     obtain ⟨⟨t609, t610, t611, t612, t613⟩, A90, H⟩ := H
     (try dsimp only at H)
     have A9 := Aside0.mk A90
     clear A90
     by_cases c10 : t613 = 0
     ·rw [if_pos c10] at H
      have c10b0 : (t613 == 0) = true := beq_iff_eq.mpr c10
      have c10b1 : (t613 != 0) = false := bne_eq_false_iff_eq.mpr c10
      clear c10
      replace H := Option.bind_eq_some_iff.mp H
      obtain ⟨t615, A110, H⟩ := H
      (try dsimp only at H)
      have A11 := Aside0.mk A110
      clear A110
      replace H := Option.bind_eq_some_iff.mp H
      obtain ⟨⟨t616, t617, t618, t619, t620⟩, A120, H⟩ := H
      (try dsimp only at H)
      have A12 := Aside0.mk A120
      clear A120
      by_cases c13 : 7 + t609.size ≤ 9223372036854775807
      ·rw [if_pos c13] at H
       have c13b0 := eq_true c13
       have c13b1 : decide (7 + t609.size ≤ 9223372036854775807) = true := decide_eq_true c13
       try have c13b2 : (9223372036854775807 < 7 + t609.size) = False := eq_false (Nat.not_lt.2 c13)
       try (have c13b3 := c13b2; simp only [ByteArray.size_extract, ByteArray.size_append, Nat.min_self, Nat.sub_zero] at c13b3)
       replace H := Option.bind_eq_some_iff.mp H
       obtain ⟨t622, A140, H⟩ := H
       (try dsimp only at H)
       have A14 := Aside0.mk A140
       obtain rfl : t615 = t622 := Option.some.inj (A11.out.symm.trans A14.out)
       clear A140
       by_cases c15 : ((⟨#[72, 84, 84, 80, 58, 47, 47]⟩ : ByteArray) ++ t609).size + t615.size ≤ 9223372036854775807
       ·rw [if_pos c15] at H
        have c15b0 := eq_true c15
        have c15b1 : decide (((⟨#[72, 84, 84, 80, 58, 47, 47]⟩ : ByteArray) ++ t609).size + t615.size ≤ 9223372036854775807) = true := decide_eq_true c15
        try have c15b2 : (9223372036854775807 < ((⟨#[72, 84, 84, 80, 58, 47, 47]⟩ : ByteArray) ++ t609).size + t615.size) = False := eq_false (Nat.not_lt.2 c15)
        try (have c15b3 := c15b2; simp only [ByteArray.size_extract, ByteArray.size_append, Nat.min_self, Nat.sub_zero, (show (⟨#[72, 84, 84, 80, 58, 47, 47]⟩ : ByteArray).size = 7 from rfl)] at c15b3)
        replace H := Option.bind_eq_some_iff.mp H
        obtain ⟨⟨t623, t624, t625, t626, t627⟩, A160, H⟩ := H
        (try dsimp only at H)
        have A16 := Aside0.mk A160
        clear A160
        have HLate := Aside0.mk H
        clear H
        try go_wp2_with (first | ((with_reducible refine gate_callee (f := 11) rfl ?_); refine goesL_ (some 24) rfl rfl Tryd.func11 (by kernel_rfl) rfl #[.string a0, .string a1] rfl (by (try simp only [List.map_toArray, List.map_cons, List.map_nil]); first | done | rfl | (simp only [List.length_drop, List.length_take]; rfl)) ?_; (with_reducible refine (place_Read.calls kj4 a0 a1 t609 t610 t611 t612 t613 _ A9.out).mono ?_); rintro e w20 ⟨rfl, hb⟩; refine ⟨_, rfl, ?_⟩; have n0_ := Aside0.mk (below_step (by repeat (first | (with_reducible first | exact HB.out | apply below_alloc | apply pw_below_drewN | apply below_drew1) | exact HB.out)) hb); clear HB; have HB := n0_; clear n0_; (try clear hb); (try clear hb2); (try clear hk); (try clear hi)) | ((with_reducible refine gate_dst (N := 5) rfl ?_); (try (refine gate_guard (by rfl) ?_; dsimp only)); refine box_event ?hg (N := 5) ?hd (cs := #[.string (⟨#[]⟩ : ByteArray), .string (⟨#[]⟩ : ByteArray), .string (⟨#[]⟩ : ByteArray), .bool false]) (t := 24) ?hr ?_; (case hd => rfl); (case hg => rfl); (case hr => first | (go_simp; done) | (go_simp; rfl)); intro gb614 hg w21 hbox hb; have n0_ := Aside0.mk (below_step (by repeat (first | (with_reducible first | exact HB.out | apply below_alloc | apply pw_below_drewN | apply below_drew1) | exact HB.out)) hb); have n1_ := Aside0.mk (hbox); have n2_ := Aside0.mk ((by rw [hg]; exact (below_size (by repeat (first | (with_reducible first | exact HB.out | apply below_alloc | apply pw_below_drewN | apply below_drew1) | exact HB.out))) : w.heap.size ≤ gb614)); have n3_ := Aside0.mk ((by rw [hg]; exact (below_size (by repeat (first | (with_reducible first | exact HB.out | apply below_alloc | apply pw_below_drewN | apply below_drew1) | exact HB.out))) : w.heap.size ≤ gb614)); clear HB; have HB := n0_; have BK614 := n1_; have GW614 := n2_; have GE614 := n3_; clear n0_ n1_ n2_ n3_; clear hb hbox hg; have hcz22_0 : w21.cell? ⟨gb614, 0, none⟩ = some (.string (⟨#[]⟩ : ByteArray)) := (blk_cell BK614.out 0).trans rfl; have hcz22_1 : w21.cell? ⟨gb614, 1, none⟩ = some (.string (⟨#[]⟩ : ByteArray)) := (blk_cell BK614.out 1).trans rfl; have hcz22_2 : w21.cell? ⟨gb614, 2, none⟩ = some (.string (⟨#[]⟩ : ByteArray)) := (blk_cell BK614.out 2).trans rfl; have hcz22_3 : w21.cell? ⟨gb614, 3, none⟩ = some (.bool false) := (blk_cell BK614.out 3).trans rfl; have hfz22_0 := blk_frozen BK614.out 0; have hfz22_1 := blk_frozen BK614.out 1; have hfz22_2 := blk_frozen BK614.out 2; have hfz22_3 := blk_frozen BK614.out 3))
        have n0_ : Aside0 (((((w21.setCell ⟨gb614, 0, none⟩ (.string t609)).setCell ⟨gb614, 1, none⟩ (.string t610)).setCell ⟨gb614, 2, none⟩ (.string t611)).setCell ⟨gb614, 3, none⟩ (.bool t612)).heap[gb614]? = some (.cells #[.string t609, .string t610, .string t611, .bool t612] 24 (0, 0))) := ⟨by (with_reducible repeat (first | refine blk_drewN ?_ _ | refine blk_drew ?_ | refine blk_alloc ?_ _)); refine blk_put (cs := #[.string t609, .string t610, .string t611, .bool false]) ?_ 3 _ rfl; (with_reducible repeat (first | refine blk_drewN ?_ _ | refine blk_drew ?_ | refine blk_alloc ?_ _)); refine blk_put (cs := #[.string t609, .string t610, .string (⟨#[]⟩ : ByteArray), .bool false]) ?_ 2 _ rfl; (with_reducible repeat (first | refine blk_drewN ?_ _ | refine blk_drew ?_ | refine blk_alloc ?_ _)); refine blk_put (cs := #[.string t609, .string (⟨#[]⟩ : ByteArray), .string (⟨#[]⟩ : ByteArray), .bool false]) ?_ 1 _ rfl; (with_reducible repeat (first | refine blk_drewN ?_ _ | refine blk_drew ?_ | refine blk_alloc ?_ _)); refine blk_put (cs := #[.string (⟨#[]⟩ : ByteArray), .string (⟨#[]⟩ : ByteArray), .string (⟨#[]⟩ : ByteArray), .bool false]) ?_ 0 _ rfl; (with_reducible repeat (first | refine blk_drewN ?_ _ | refine blk_drew ?_ | refine blk_alloc ?_ _)); exact BK614.out⟩
        have n1_ : Aside0 (Below w.heap.size w ((((w21.setCell ⟨gb614, 0, none⟩ (.string t609)).setCell ⟨gb614, 1, none⟩ (.string t610)).setCell ⟨gb614, 2, none⟩ (.string t611)).setCell ⟨gb614, 3, none⟩ (.bool t612))) := ⟨by repeat (first | (with_reducible first | exact HB.out | apply below_alloc | apply pw_below_drewN | apply below_drew1 | refine below_set ?_ GE614.out) | exact HB.out)⟩
        (try clear BK614)
        (try clear HB)
        generalize ((((w21.setCell ⟨gb614, 0, none⟩ (.string t609)).setCell ⟨gb614, 1, none⟩ (.string t610)).setCell ⟨gb614, 2, none⟩ (.string t611)).setCell ⟨gb614, 3, none⟩ (.bool t612)) = w23 at n0_ n1_ ⊢
        have BK614 := n0_
        have HB := n1_
        clear n0_ n1_
        have n0_ := Aside0.mk (blk_drew BK614.out)
        have n1_ := Aside0.mk (below_drew1 HB.out)
        clear BK614
        clear HB
        have BK614 := n0_
        have HB := n1_
        clear n0_ n1_
        refine start_ (n := 11) (S := fun w' => w'.cell? ⟨gb614, 0, none⟩ = some (.string t609) ∧ w'.cell? ⟨gb614, 1, none⟩ = some (.string t610) ∧ w'.cell? ⟨gb614, 2, none⟩ = some (.string t611) ∧ w'.cell? ⟨gb614, 3, none⟩ = some (.bool t612)) (ds := []) #[false, false, false, false, false, false, false, false, false, false, false] (by kernel_rfl) rfl rfl ⟨(blk_cell BK614.out 0).trans rfl, (blk_cell BK614.out 1).trans rfl, (blk_cell BK614.out 2).trans rfl, (blk_cell BK614.out 3).trans rfl⟩ (fun hHeld => ?_); refine with_tabW pantrylaw08_PlaceBack.tab8 pantrylaw08_PlaceBack.bits8 (fun HT_ HW_ => ?_)
        generalize w23.drew = w24 at BK614 HB hHeld ⊢
        refine pure_ (i := 2) (N := some 32) (v := ?_) (a' := ?_) #[false, false, true, false, false, false, false, false, false, false, false] rfl rfl (any_of HT_.out (by kernel_rfl)) (fun _ _ _ h => h) (Or.inl ⟨by rfl, ?_⟩) ?_ ?_
        rotate_left
        ·intro w'
         go_simp
         with_reducible rfl
        rotate_left
        ·simp only [Act.put, List.setIfInBounds_toArray, List.set_cons_zero, List.set_cons_succ, i64_w, i32_w]
         rfl
        refine take_ (i := 0) (N := some 30) (v := ?_) (a' := ?_) #[true, false, true, false, false, false, false, false, false, false, false] rfl rfl (take_ofW HT_.out HW_.out (by kernel_rfl)) (fun _ _ _ h => h) (Or.inl ⟨by rfl, ?_⟩) hHeld ?_ ?_
        rotate_left
        ·rintro w' ⟨s0, s1, s2, s3⟩
         go_simp
         with_reducible rfl
        rotate_left
        ·simp only [Act.put, List.setIfInBounds_toArray, List.set_cons_zero, List.set_cons_succ, i64_w, i32_w]
         rfl
        refine take_ (i := 3) (N := some 33) (v := ?_) (a' := ?_) #[true, false, true, true, false, false, false, false, false, false, false] rfl rfl (take_ofW HT_.out HW_.out (by kernel_rfl)) (fun _ _ _ h => h) (Or.inl ⟨by rfl, ?_⟩) hHeld ?_ ?_
        rotate_left
        ·rintro w' ⟨s0, s1, s2, s3⟩
         go_simp
         with_reducible rfl
        rotate_left
        ·simp only [Act.put, List.setIfInBounds_toArray, List.set_cons_zero, List.set_cons_succ, i64_w, i32_w]
         rfl
        refine join_ (σ := Nat) 2 #[true, true, true, true, true, true, true, true, true, false, false] (fun s_ => [(31, .string t615), (34, .tuple #[.agg #[.string t616, .string t617, .string t618, .bool t619], .int .i64 t620]), (7, .pointer (some ⟨s_, 0, none⟩)), (29, .tuple #[.agg #[.string t616, .string t617, .string t618, .bool t619], .int .i64 t620]), (35, .agg #[.string t616, .string t617, .string t618, .bool t619]), (36, .int .i64 t620)]) (fun s_ w' => (w'.cell? ⟨gb614, 0, none⟩ = some (.string t609) ∧ w'.cell? ⟨gb614, 1, none⟩ = some (.string t610) ∧ w'.cell? ⟨gb614, 2, none⟩ = some (.string t611) ∧ w'.cell? ⟨gb614, 3, none⟩ = some (.bool t612)) ∧ (w'.heap[gb614]? = some (.cells #[.string t609, .string t610, .string t611, .bool t612] 24 (0, 0))) ∧ (w'.heap[s_]? = some (.cells #[.string (⟨#[]⟩ : ByteArray), .string (⟨#[]⟩ : ByteArray), .string (⟨#[]⟩ : ByteArray), .bool false] 24 (0, 0))) ∧ (w.heap.size ≤ s_) ∧ (w.heap.size ≤ s_) ∧ (gb614 ≠ s_) ∧ (s_ ≠ gb614) ∧ (Below w.heap.size w w')) ?_ ?_
        rotate_left
        ·intro hCont
         refine two_ (i := 1) (j := 8) (Ni := some 31) (Nj := some 7) #[true, true, true, true, false, false, false, false, false, false, false] #[true, false, true, true, false, false, false, false, true, false, false] rfl rfl rfl rfl (two_of HT_.out (by kernel_rfl)) (by decide) (by decide) (fun K hK => ?_) (fun K hK => ?_)
         ·skip
          refine goes_ Tryd.func16 (by kernel_rfl) rfl #[.agg #[.string t609, .string t610, .string t611, .bool t612]] (by rfl) rfl rfl (by (try simp only [List.map_toArray, List.map_cons, List.map_nil]); first | done | rfl | (simp only [List.length_drop, List.length_take]; rfl)) ?_
          with_reducible refine (place_Place_Show.calls t609 t610 t611 t612 t615 _ A11.out).mono ?_
          rintro e w25 ⟨rfl, hb⟩
          refine ⟨_, rfl, ?_⟩
          have n0_ := Aside0.mk (blk_below (g := gb614) (o := .cells #[.string t609, .string t610, .string t611, .bool t612] 24 (0, 0)) (by (with_reducible repeat (first | refine blk_drewN ?_ _ | refine blk_drew ?_ | refine blk_alloc ?_ _)); exact BK614.out) hb)
          have n1_ := Aside0.mk (below_step (by repeat (first | (with_reducible first | exact HB.out | apply below_alloc | apply pw_below_drewN | apply below_drew1 | refine below_set ?_ GE614.out) | exact HB.out)) hb)
          clear BK614
          clear HB
          have BK614 := n0_
          have HB := n1_
          clear n0_ n1_
          (try clear hb)
          (try clear hb2)
          (try clear hk)
          (try clear hi)
          refine hK.out _ _ ⟨(blk_cell BK614.out 0).trans rfl, (blk_cell BK614.out 1).trans rfl, (blk_cell BK614.out 2).trans rfl, (blk_cell BK614.out 3).trans rfl⟩ (fun hHeld => ?_)
          clear hK K
          refine norm_ (a' := ?_) ?_ ?_
          rotate_left
          ·show Act.put _ (some 31) _ = _
           simp only [Act.put, List.setIfInBounds_toArray, List.set_cons_zero, List.set_cons_succ, i64_w, i32_w]
           rfl
          refine two_ (i := 4) (j := 8) (Ni := some 34) (Nj := some 7) #[true, true, true, true, true, false, false, false, false, false, false] #[true, true, true, true, false, false, false, false, true, false, false] rfl rfl rfl rfl (two_of HT_.out (by kernel_rfl)) (by decide) (by decide) (fun K hK => ?_) (fun K hK => ?_)
          ·skip
           refine goes_ Tryd.func11 (by kernel_rfl) rfl #[.string t615, .string t609] (by rfl) rfl rfl (by (try simp only [List.map_toArray, List.map_cons, List.map_nil]); first | done | rfl | (simp only [List.length_drop, List.length_take]; rfl)) ?_
           with_reducible refine (place_Read.calls kj4 t615 t609 t616 t617 t618 t619 t620 _ A12.out).mono ?_
           rintro e w26 ⟨rfl, hb⟩
           refine ⟨_, rfl, ?_⟩
           have n0_ := Aside0.mk (blk_below (g := gb614) (o := .cells #[.string t609, .string t610, .string t611, .bool t612] 24 (0, 0)) (by (with_reducible repeat (first | refine blk_drewN ?_ _ | refine blk_drew ?_ | refine blk_alloc ?_ _)); exact BK614.out) hb)
           have n1_ := Aside0.mk (below_step (by repeat (first | (with_reducible first | exact HB.out | apply below_alloc | apply pw_below_drewN | apply below_drew1 | refine below_set ?_ GE614.out) | exact HB.out)) hb)
           clear BK614
           clear HB
           have BK614 := n0_
           have HB := n1_
           clear n0_ n1_
           (try clear hb)
           (try clear hb2)
           (try clear hk)
           (try clear hi)
           refine hK.out _ _ ⟨(blk_cell BK614.out 0).trans rfl, (blk_cell BK614.out 1).trans rfl, (blk_cell BK614.out 2).trans rfl, (blk_cell BK614.out 3).trans rfl⟩ (fun hHeld => ?_)
           clear hK K
           refine norm_ (a' := ?_) ?_ ?_
           rotate_left
           ·show Act.put _ (some 34) _ = _
            simp only [Act.put, List.setIfInBounds_toArray, List.set_cons_zero, List.set_cons_succ, i64_w, i32_w]
            rfl
           refine pure_ (i := 5) (N := some 29) (v := ?_) (a' := ?_) #[true, true, true, true, true, true, false, false, false, false, false] rfl rfl (any_of HT_.out (by kernel_rfl)) (fun _ _ _ h => h) (Or.inl ⟨by rfl, ?_⟩) ?_ ?_
           rotate_left
           ·intro w'
            go_simp
            with_reducible rfl
           rotate_left
           ·simp only [Act.put, List.setIfInBounds_toArray, List.set_cons_zero, List.set_cons_succ, i64_w, i32_w]
            rfl
           refine pure_ (i := 6) (N := some 35) (v := ?_) (a' := ?_) #[true, true, true, true, true, true, true, false, false, false, false] rfl rfl (any_of HT_.out (by kernel_rfl)) (fun _ _ _ h => h) (Or.inl ⟨by rfl, ?_⟩) ?_ ?_
           rotate_left
           ·intro w'
            go_simp
            with_reducible rfl
           rotate_left
           ·simp only [Act.put, List.setIfInBounds_toArray, List.set_cons_zero, List.set_cons_succ, i64_w, i32_w]
            rfl
           refine pure_ (i := 7) (N := some 36) (v := ?_) (a' := ?_) #[true, true, true, true, true, true, true, true, false, false, false] rfl rfl (any_of HT_.out (by kernel_rfl)) (fun _ _ _ h => h) (Or.inl ⟨by rfl, ?_⟩) ?_ ?_
           rotate_left
           ·intro w'
            go_simp
            with_reducible rfl
           rotate_left
           ·simp only [Act.put, List.setIfInBounds_toArray, List.set_cons_zero, List.set_cons_succ, i64_w, i32_w]
            rfl
           refine one_ (i := 8) (N := some 7) #[true, true, true, true, true, true, true, true, true, false, false] rfl rfl (one_of HT_.out (by kernel_rfl)) (by decide) (fun K hK => ?_)
           refine box_step ?hg (N := 7) ?hd (cs := #[.string (⟨#[]⟩ : ByteArray), .string (⟨#[]⟩ : ByteArray), .string (⟨#[]⟩ : ByteArray), .bool false]) (t := 24) ?hr ?_; (case hd => rfl); (case hg => rfl); (case hr => first | (go_simp; done) | (go_simp; rfl))
           intro gb621 hg w27 hbox hb
           have n0_ := Aside0.mk (blk_below (g := gb614) (o := .cells #[.string t609, .string t610, .string t611, .bool t612] 24 (0, 0)) (by (with_reducible repeat (first | refine blk_drewN ?_ _ | refine blk_drew ?_ | refine blk_alloc ?_ _)); exact BK614.out) hb)
           have n1_ := Aside0.mk (below_step (by repeat (first | (with_reducible first | exact HB.out | apply below_alloc | apply pw_below_drewN | apply below_drew1 | refine below_set ?_ GE614.out) | exact HB.out)) hb)
           have n2_ := Aside0.mk (hbox)
           have n3_ := Aside0.mk ((by rw [hg]; exact (below_size (by repeat (first | (with_reducible first | exact HB.out | apply below_alloc | apply pw_below_drewN | apply below_drew1 | refine below_set ?_ GE614.out) | exact HB.out))) : w.heap.size ≤ gb621))
           have n4_ := Aside0.mk ((by rw [hg]; exact (below_size (by repeat (first | (with_reducible first | exact HB.out | apply below_alloc | apply pw_below_drewN | apply below_drew1 | refine below_set ?_ GE614.out) | exact HB.out))) : w.heap.size ≤ gb621))
           have n5_ := Aside0.mk ((by rw [hg]; exact Nat.ne_of_lt (blk_lt (g := gb614) (o := .cells #[.string t609, .string t610, .string t611, .bool t612] 24 (0, 0)) (by (with_reducible repeat (first | refine blk_drewN ?_ _ | refine blk_drew ?_ | refine blk_alloc ?_ _)); exact BK614.out)) : gb614 ≠ gb621))
           have n6_ := Aside0.mk ((by rw [hg]; exact Nat.ne_of_gt (blk_lt (g := gb614) (o := .cells #[.string t609, .string t610, .string t611, .bool t612] 24 (0, 0)) (by (with_reducible repeat (first | refine blk_drewN ?_ _ | refine blk_drew ?_ | refine blk_alloc ?_ _)); exact BK614.out)) : gb621 ≠ gb614))
           clear BK614
           clear HB
           have BK614 := n0_
           have HB := n1_
           have BK621 := n2_
           have GW621 := n3_
           have GE621 := n4_
           have NB614_621 := n5_
           have NB621_614 := n6_
           clear n0_ n1_ n2_ n3_ n4_ n5_ n6_
           clear hb hbox hg
           refine hK.out _ _ ⟨(blk_cell BK614.out 0).trans rfl, (blk_cell BK614.out 1).trans rfl, (blk_cell BK614.out 2).trans rfl, (blk_cell BK614.out 3).trans rfl⟩ (fun hHeld => ?_)
           clear hK K
           refine norm_ (a' := ?_) ?_ ?_
           rotate_left
           ·show Act.put _ (some 7) _ = _
            simp only [Act.put, List.setIfInBounds_toArray, List.set_cons_zero, List.set_cons_succ, i64_w, i32_w]
            rfl
           exact norm_ (by simp only [putAll, Act.put, List.setIfInBounds_toArray, List.set_cons_zero, List.set_cons_succ]) (hCont (gb621) _ ⟨hHeld, (by (with_reducible repeat (first | refine blk_drewN ?_ _ | refine blk_drew ?_ | refine blk_alloc ?_ _)); exact BK614.out), (by (with_reducible repeat (first | refine blk_drewN ?_ _ | refine blk_drew ?_ | refine blk_alloc ?_ _)); exact BK621.out), GW621.out, GE621.out, NB614_621.out, NB621_614.out, (by repeat (first | (with_reducible first | exact HB.out | apply below_alloc | apply pw_below_drewN | apply below_drew1 | refine below_set ?_ GE614.out | refine below_set ?_ GE621.out) | exact HB.out))⟩)
          ·skip
           refine box_step ?hg (N := 7) ?hd (cs := #[.string (⟨#[]⟩ : ByteArray), .string (⟨#[]⟩ : ByteArray), .string (⟨#[]⟩ : ByteArray), .bool false]) (t := 24) ?hr ?_; (case hd => rfl); (case hg => rfl); (case hr => first | (go_simp; done) | (go_simp; rfl))
           intro gb621 hg w26 hbox hb
           have n0_ := Aside0.mk (blk_below (g := gb614) (o := .cells #[.string t609, .string t610, .string t611, .bool t612] 24 (0, 0)) (by (with_reducible repeat (first | refine blk_drewN ?_ _ | refine blk_drew ?_ | refine blk_alloc ?_ _)); exact BK614.out) hb)
           have n1_ := Aside0.mk (below_step (by repeat (first | (with_reducible first | exact HB.out | apply below_alloc | apply pw_below_drewN | apply below_drew1 | refine below_set ?_ GE614.out) | exact HB.out)) hb)
           have n2_ := Aside0.mk (hbox)
           have n3_ := Aside0.mk ((by rw [hg]; exact (below_size (by repeat (first | (with_reducible first | exact HB.out | apply below_alloc | apply pw_below_drewN | apply below_drew1 | refine below_set ?_ GE614.out) | exact HB.out))) : w.heap.size ≤ gb621))
           have n4_ := Aside0.mk ((by rw [hg]; exact (below_size (by repeat (first | (with_reducible first | exact HB.out | apply below_alloc | apply pw_below_drewN | apply below_drew1 | refine below_set ?_ GE614.out) | exact HB.out))) : w.heap.size ≤ gb621))
           have n5_ := Aside0.mk ((by rw [hg]; exact Nat.ne_of_lt (blk_lt (g := gb614) (o := .cells #[.string t609, .string t610, .string t611, .bool t612] 24 (0, 0)) (by (with_reducible repeat (first | refine blk_drewN ?_ _ | refine blk_drew ?_ | refine blk_alloc ?_ _)); exact BK614.out)) : gb614 ≠ gb621))
           have n6_ := Aside0.mk ((by rw [hg]; exact Nat.ne_of_gt (blk_lt (g := gb614) (o := .cells #[.string t609, .string t610, .string t611, .bool t612] 24 (0, 0)) (by (with_reducible repeat (first | refine blk_drewN ?_ _ | refine blk_drew ?_ | refine blk_alloc ?_ _)); exact BK614.out)) : gb621 ≠ gb614))
           clear BK614
           clear HB
           have BK614 := n0_
           have HB := n1_
           have BK621 := n2_
           have GW621 := n3_
           have GE621 := n4_
           have NB614_621 := n5_
           have NB621_614 := n6_
           clear n0_ n1_ n2_ n3_ n4_ n5_ n6_
           clear hb hbox hg
           refine hK.out _ _ ⟨(blk_cell BK614.out 0).trans rfl, (blk_cell BK614.out 1).trans rfl, (blk_cell BK614.out 2).trans rfl, (blk_cell BK614.out 3).trans rfl⟩ (fun hHeld => ?_)
           clear hK K
           refine norm_ (a' := ?_) ?_ ?_
           rotate_left
           ·show Act.put _ (some 7) _ = _
            simp only [Act.put, List.setIfInBounds_toArray, List.set_cons_zero, List.set_cons_succ, i64_w, i32_w]
            rfl
           refine one_ (i := 4) (N := some 34) #[true, true, true, true, true, false, false, false, true, false, false] rfl rfl (one_of HT_.out (by kernel_rfl)) (by decide) (fun K hK => ?_)
           refine goes_ Tryd.func11 (by kernel_rfl) rfl #[.string t615, .string t609] (by rfl) rfl rfl (by (try simp only [List.map_toArray, List.map_cons, List.map_nil]); first | done | rfl | (simp only [List.length_drop, List.length_take]; rfl)) ?_
           with_reducible refine (place_Read.calls kj4 t615 t609 t616 t617 t618 t619 t620 _ A12.out).mono ?_
           rintro e w27 ⟨rfl, hb⟩
           refine ⟨_, rfl, ?_⟩
           have n0_ := Aside0.mk (blk_below (g := gb614) (o := .cells #[.string t609, .string t610, .string t611, .bool t612] 24 (0, 0)) (by (with_reducible repeat (first | refine blk_drewN ?_ _ | refine blk_drew ?_ | refine blk_alloc ?_ _)); exact BK614.out) hb)
           have n1_ := Aside0.mk (blk_below (g := gb621) (o := .cells #[.string (⟨#[]⟩ : ByteArray), .string (⟨#[]⟩ : ByteArray), .string (⟨#[]⟩ : ByteArray), .bool false] 24 (0, 0)) (by (with_reducible repeat (first | refine blk_drewN ?_ _ | refine blk_drew ?_ | refine blk_alloc ?_ _)); exact BK621.out) hb)
           have n2_ := Aside0.mk (below_step (by repeat (first | (with_reducible first | exact HB.out | apply below_alloc | apply pw_below_drewN | apply below_drew1 | refine below_set ?_ GE614.out | refine below_set ?_ GE621.out) | exact HB.out)) hb)
           clear BK614
           clear BK621
           clear HB
           have BK614 := n0_
           have BK621 := n1_
           have HB := n2_
           clear n0_ n1_ n2_
           (try clear hb)
           (try clear hb2)
           (try clear hk)
           (try clear hi)
           refine hK.out _ _ ⟨(blk_cell BK614.out 0).trans rfl, (blk_cell BK614.out 1).trans rfl, (blk_cell BK614.out 2).trans rfl, (blk_cell BK614.out 3).trans rfl⟩ (fun hHeld => ?_)
           clear hK K
           refine norm_ (a' := ?_) ?_ ?_
           rotate_left
           ·show Act.put _ (some 34) _ = _
            simp only [Act.put, List.setIfInBounds_toArray, List.set_cons_zero, List.set_cons_succ, i64_w, i32_w]
            rfl
           refine pure_ (i := 5) (N := some 29) (v := ?_) (a' := ?_) #[true, true, true, true, true, true, false, false, true, false, false] rfl rfl (any_of HT_.out (by kernel_rfl)) (fun _ _ _ h => h) (Or.inl ⟨by rfl, ?_⟩) ?_ ?_
           rotate_left
           ·intro w'
            go_simp
            with_reducible rfl
           rotate_left
           ·simp only [Act.put, List.setIfInBounds_toArray, List.set_cons_zero, List.set_cons_succ, i64_w, i32_w]
            rfl
           refine pure_ (i := 6) (N := some 35) (v := ?_) (a' := ?_) #[true, true, true, true, true, true, true, false, true, false, false] rfl rfl (any_of HT_.out (by kernel_rfl)) (fun _ _ _ h => h) (Or.inl ⟨by rfl, ?_⟩) ?_ ?_
           rotate_left
           ·intro w'
            go_simp
            with_reducible rfl
           rotate_left
           ·simp only [Act.put, List.setIfInBounds_toArray, List.set_cons_zero, List.set_cons_succ, i64_w, i32_w]
            rfl
           refine pure_ (i := 7) (N := some 36) (v := ?_) (a' := ?_) #[true, true, true, true, true, true, true, true, true, false, false] rfl rfl (any_of HT_.out (by kernel_rfl)) (fun _ _ _ h => h) (Or.inl ⟨by rfl, ?_⟩) ?_ ?_
           rotate_left
           ·intro w'
            go_simp
            with_reducible rfl
           rotate_left
           ·simp only [Act.put, List.setIfInBounds_toArray, List.set_cons_zero, List.set_cons_succ, i64_w, i32_w]
            rfl
           exact norm_ (by simp only [putAll, Act.put, List.setIfInBounds_toArray, List.set_cons_zero, List.set_cons_succ]) (hCont (gb621) _ ⟨hHeld, (by (with_reducible repeat (first | refine blk_drewN ?_ _ | refine blk_drew ?_ | refine blk_alloc ?_ _)); exact BK614.out), (by (with_reducible repeat (first | refine blk_drewN ?_ _ | refine blk_drew ?_ | refine blk_alloc ?_ _)); exact BK621.out), GW621.out, GE621.out, NB614_621.out, NB621_614.out, (by repeat (first | (with_reducible first | exact HB.out | apply below_alloc | apply pw_below_drewN | apply below_drew1 | refine below_set ?_ GE614.out | refine below_set ?_ GE621.out) | exact HB.out))⟩)
         ·skip
          refine box_step ?hg (N := 7) ?hd (cs := #[.string (⟨#[]⟩ : ByteArray), .string (⟨#[]⟩ : ByteArray), .string (⟨#[]⟩ : ByteArray), .bool false]) (t := 24) ?hr ?_; (case hd => rfl); (case hg => rfl); (case hr => first | (go_simp; done) | (go_simp; rfl))
          intro gb621 hg w25 hbox hb
          have n0_ := Aside0.mk (blk_below (g := gb614) (o := .cells #[.string t609, .string t610, .string t611, .bool t612] 24 (0, 0)) (by (with_reducible repeat (first | refine blk_drewN ?_ _ | refine blk_drew ?_ | refine blk_alloc ?_ _)); exact BK614.out) hb)
          have n1_ := Aside0.mk (below_step (by repeat (first | (with_reducible first | exact HB.out | apply below_alloc | apply pw_below_drewN | apply below_drew1 | refine below_set ?_ GE614.out) | exact HB.out)) hb)
          have n2_ := Aside0.mk (hbox)
          have n3_ := Aside0.mk ((by rw [hg]; exact (below_size (by repeat (first | (with_reducible first | exact HB.out | apply below_alloc | apply pw_below_drewN | apply below_drew1 | refine below_set ?_ GE614.out) | exact HB.out))) : w.heap.size ≤ gb621))
          have n4_ := Aside0.mk ((by rw [hg]; exact (below_size (by repeat (first | (with_reducible first | exact HB.out | apply below_alloc | apply pw_below_drewN | apply below_drew1 | refine below_set ?_ GE614.out) | exact HB.out))) : w.heap.size ≤ gb621))
          have n5_ := Aside0.mk ((by rw [hg]; exact Nat.ne_of_lt (blk_lt (g := gb614) (o := .cells #[.string t609, .string t610, .string t611, .bool t612] 24 (0, 0)) (by (with_reducible repeat (first | refine blk_drewN ?_ _ | refine blk_drew ?_ | refine blk_alloc ?_ _)); exact BK614.out)) : gb614 ≠ gb621))
          have n6_ := Aside0.mk ((by rw [hg]; exact Nat.ne_of_gt (blk_lt (g := gb614) (o := .cells #[.string t609, .string t610, .string t611, .bool t612] 24 (0, 0)) (by (with_reducible repeat (first | refine blk_drewN ?_ _ | refine blk_drew ?_ | refine blk_alloc ?_ _)); exact BK614.out)) : gb621 ≠ gb614))
          clear BK614
          clear HB
          have BK614 := n0_
          have HB := n1_
          have BK621 := n2_
          have GW621 := n3_
          have GE621 := n4_
          have NB614_621 := n5_
          have NB621_614 := n6_
          clear n0_ n1_ n2_ n3_ n4_ n5_ n6_
          clear hb hbox hg
          refine hK.out _ _ ⟨(blk_cell BK614.out 0).trans rfl, (blk_cell BK614.out 1).trans rfl, (blk_cell BK614.out 2).trans rfl, (blk_cell BK614.out 3).trans rfl⟩ (fun hHeld => ?_)
          clear hK K
          refine norm_ (a' := ?_) ?_ ?_
          rotate_left
          ·show Act.put _ (some 7) _ = _
           simp only [Act.put, List.setIfInBounds_toArray, List.set_cons_zero, List.set_cons_succ, i64_w, i32_w]
           rfl
          refine one_ (i := 1) (N := some 31) #[true, true, true, true, false, false, false, false, true, false, false] rfl rfl (one_of HT_.out (by kernel_rfl)) (by decide) (fun K hK => ?_)
          refine goes_ Tryd.func16 (by kernel_rfl) rfl #[.agg #[.string t609, .string t610, .string t611, .bool t612]] (by rfl) rfl rfl (by (try simp only [List.map_toArray, List.map_cons, List.map_nil]); first | done | rfl | (simp only [List.length_drop, List.length_take]; rfl)) ?_
          with_reducible refine (place_Place_Show.calls t609 t610 t611 t612 t615 _ A11.out).mono ?_
          rintro e w26 ⟨rfl, hb⟩
          refine ⟨_, rfl, ?_⟩
          have n0_ := Aside0.mk (blk_below (g := gb614) (o := .cells #[.string t609, .string t610, .string t611, .bool t612] 24 (0, 0)) (by (with_reducible repeat (first | refine blk_drewN ?_ _ | refine blk_drew ?_ | refine blk_alloc ?_ _)); exact BK614.out) hb)
          have n1_ := Aside0.mk (blk_below (g := gb621) (o := .cells #[.string (⟨#[]⟩ : ByteArray), .string (⟨#[]⟩ : ByteArray), .string (⟨#[]⟩ : ByteArray), .bool false] 24 (0, 0)) (by (with_reducible repeat (first | refine blk_drewN ?_ _ | refine blk_drew ?_ | refine blk_alloc ?_ _)); exact BK621.out) hb)
          have n2_ := Aside0.mk (below_step (by repeat (first | (with_reducible first | exact HB.out | apply below_alloc | apply pw_below_drewN | apply below_drew1 | refine below_set ?_ GE614.out | refine below_set ?_ GE621.out) | exact HB.out)) hb)
          clear BK614
          clear BK621
          clear HB
          have BK614 := n0_
          have BK621 := n1_
          have HB := n2_
          clear n0_ n1_ n2_
          (try clear hb)
          (try clear hb2)
          (try clear hk)
          (try clear hi)
          refine hK.out _ _ ⟨(blk_cell BK614.out 0).trans rfl, (blk_cell BK614.out 1).trans rfl, (blk_cell BK614.out 2).trans rfl, (blk_cell BK614.out 3).trans rfl⟩ (fun hHeld => ?_)
          clear hK K
          refine norm_ (a' := ?_) ?_ ?_
          rotate_left
          ·show Act.put _ (some 31) _ = _
           simp only [Act.put, List.setIfInBounds_toArray, List.set_cons_zero, List.set_cons_succ, i64_w, i32_w]
           rfl
          refine one_ (i := 4) (N := some 34) #[true, true, true, true, true, false, false, false, true, false, false] rfl rfl (one_of HT_.out (by kernel_rfl)) (by decide) (fun K hK => ?_)
          refine goes_ Tryd.func11 (by kernel_rfl) rfl #[.string t615, .string t609] (by rfl) rfl rfl (by (try simp only [List.map_toArray, List.map_cons, List.map_nil]); first | done | rfl | (simp only [List.length_drop, List.length_take]; rfl)) ?_
          with_reducible refine (place_Read.calls kj4 t615 t609 t616 t617 t618 t619 t620 _ A12.out).mono ?_
          rintro e w27 ⟨rfl, hb⟩
          refine ⟨_, rfl, ?_⟩
          have n0_ := Aside0.mk (blk_below (g := gb614) (o := .cells #[.string t609, .string t610, .string t611, .bool t612] 24 (0, 0)) (by (with_reducible repeat (first | refine blk_drewN ?_ _ | refine blk_drew ?_ | refine blk_alloc ?_ _)); exact BK614.out) hb)
          have n1_ := Aside0.mk (blk_below (g := gb621) (o := .cells #[.string (⟨#[]⟩ : ByteArray), .string (⟨#[]⟩ : ByteArray), .string (⟨#[]⟩ : ByteArray), .bool false] 24 (0, 0)) (by (with_reducible repeat (first | refine blk_drewN ?_ _ | refine blk_drew ?_ | refine blk_alloc ?_ _)); exact BK621.out) hb)
          have n2_ := Aside0.mk (below_step (by repeat (first | (with_reducible first | exact HB.out | apply below_alloc | apply pw_below_drewN | apply below_drew1 | refine below_set ?_ GE614.out | refine below_set ?_ GE621.out) | exact HB.out)) hb)
          clear BK614
          clear BK621
          clear HB
          have BK614 := n0_
          have BK621 := n1_
          have HB := n2_
          clear n0_ n1_ n2_
          (try clear hb)
          (try clear hb2)
          (try clear hk)
          (try clear hi)
          refine hK.out _ _ ⟨(blk_cell BK614.out 0).trans rfl, (blk_cell BK614.out 1).trans rfl, (blk_cell BK614.out 2).trans rfl, (blk_cell BK614.out 3).trans rfl⟩ (fun hHeld => ?_)
          clear hK K
          refine norm_ (a' := ?_) ?_ ?_
          rotate_left
          ·show Act.put _ (some 34) _ = _
           simp only [Act.put, List.setIfInBounds_toArray, List.set_cons_zero, List.set_cons_succ, i64_w, i32_w]
           rfl
          refine pure_ (i := 5) (N := some 29) (v := ?_) (a' := ?_) #[true, true, true, true, true, true, false, false, true, false, false] rfl rfl (any_of HT_.out (by kernel_rfl)) (fun _ _ _ h => h) (Or.inl ⟨by rfl, ?_⟩) ?_ ?_
          rotate_left
          ·intro w'
           go_simp
           with_reducible rfl
          rotate_left
          ·simp only [Act.put, List.setIfInBounds_toArray, List.set_cons_zero, List.set_cons_succ, i64_w, i32_w]
           rfl
          refine pure_ (i := 6) (N := some 35) (v := ?_) (a' := ?_) #[true, true, true, true, true, true, true, false, true, false, false] rfl rfl (any_of HT_.out (by kernel_rfl)) (fun _ _ _ h => h) (Or.inl ⟨by rfl, ?_⟩) ?_ ?_
          rotate_left
          ·intro w'
           go_simp
           with_reducible rfl
          rotate_left
          ·simp only [Act.put, List.setIfInBounds_toArray, List.set_cons_zero, List.set_cons_succ, i64_w, i32_w]
           rfl
          refine pure_ (i := 7) (N := some 36) (v := ?_) (a' := ?_) #[true, true, true, true, true, true, true, true, true, false, false] rfl rfl (any_of HT_.out (by kernel_rfl)) (fun _ _ _ h => h) (Or.inl ⟨by rfl, ?_⟩) ?_ ?_
          rotate_left
          ·intro w'
           go_simp
           with_reducible rfl
          rotate_left
          ·simp only [Act.put, List.setIfInBounds_toArray, List.set_cons_zero, List.set_cons_succ, i64_w, i32_w]
           rfl
          exact norm_ (by simp only [putAll, Act.put, List.setIfInBounds_toArray, List.set_cons_zero, List.set_cons_succ]) (hCont (gb621) _ ⟨hHeld, (by (with_reducible repeat (first | refine blk_drewN ?_ _ | refine blk_drew ?_ | refine blk_alloc ?_ _)); exact BK614.out), (by (with_reducible repeat (first | refine blk_drewN ?_ _ | refine blk_drew ?_ | refine blk_alloc ?_ _)); exact BK621.out), GW621.out, GE621.out, NB614_621.out, NB621_614.out, (by repeat (first | (with_reducible first | exact HB.out | apply below_alloc | apply pw_below_drewN | apply below_drew1 | refine below_set ?_ GE614.out | refine below_set ?_ GE621.out) | exact HB.out))⟩)
        rintro gb621 w28 ⟨hS_, h0_, h1_, h2_, h3_, h4_, h5_, h6_⟩
        have n0_ : Aside0 (w28.heap[gb614]? = some (.cells #[.string t609, .string t610, .string t611, .bool t612] 24 (0, 0))) := ⟨h0_⟩
        have n1_ : Aside0 (w28.heap[gb621]? = some (.cells #[.string (⟨#[]⟩ : ByteArray), .string (⟨#[]⟩ : ByteArray), .string (⟨#[]⟩ : ByteArray), .bool false] 24 (0, 0))) := ⟨h1_⟩
        have n2_ : Aside0 (w.heap.size ≤ gb621) := ⟨h2_⟩
        have n3_ : Aside0 (w.heap.size ≤ gb621) := ⟨h3_⟩
        have n4_ : Aside0 (gb614 ≠ gb621) := ⟨h4_⟩
        have n5_ : Aside0 (gb621 ≠ gb614) := ⟨h5_⟩
        have n6_ : Aside0 (Below w.heap.size w w28) := ⟨h6_⟩
        clear BK614
        clear HB
        clear h0_ h1_ h2_ h3_ h4_ h5_ h6_
        have BK614 := n0_
        have BK621 := n1_
        have GW621 := n2_
        have GE621 := n3_
        have NB614_621 := n4_
        have NB621_614 := n5_
        have HB := n6_
        clear n0_ n1_ n2_ n3_ n4_ n5_ n6_
        have hHeld : w28.cell? ⟨gb614, 0, none⟩ = some (.string t609) ∧ w28.cell? ⟨gb614, 1, none⟩ = some (.string t610) ∧ w28.cell? ⟨gb614, 2, none⟩ = some (.string t611) ∧ w28.cell? ⟨gb614, 3, none⟩ = some (.bool t612) := hS_
        refine norm_ (a' := ?_) ?_ ?_
        rotate_left
        ·simp only [putAll, Act.put, List.setIfInBounds_toArray, List.set_cons_zero, List.set_cons_succ]
         rfl
        refine one_ (i := 9) (N := none) #[true, true, true, true, true, true, true, true, true, true, false] rfl rfl (one_of HT_.out (by kernel_rfl)) (by decide) (fun K hK => ?_)
        have hs29 : w28.cell? ⟨gb621, 0, none⟩ = some (.string (⟨#[]⟩ : ByteArray)) := (blk_cell BK621.out 0).trans rfl
        have hfs29 := blk_frozen BK621.out 0
        have hns29_0 := NB614_621.out
        have hms29_0 := NB621_614.out
        have hs30 : w28.cell? ⟨gb621, 1, none⟩ = some (.string (⟨#[]⟩ : ByteArray)) := (blk_cell BK621.out 1).trans rfl
        have hfs30 := blk_frozen BK621.out 1
        have hns30_0 := NB614_621.out
        have hms30_0 := NB621_614.out
        have hs31 : w28.cell? ⟨gb621, 2, none⟩ = some (.string (⟨#[]⟩ : ByteArray)) := (blk_cell BK621.out 2).trans rfl
        have hfs31 := blk_frozen BK621.out 2
        have hns31_0 := NB614_621.out
        have hms31_0 := NB621_614.out
        have hs32 : w28.cell? ⟨gb621, 3, none⟩ = some (.bool false) := (blk_cell BK621.out 3).trans rfl
        have hfs32 := blk_frozen BK621.out 3
        have hns32_0 := NB614_621.out
        have hms32_0 := NB621_614.out
        refine skip_ (w1 := ?_) (by rfl) rfl ?_ ?_
        rotate_left
        ·go_simp
         rfl
        refine hK.out _ _ ⟨((cell_far (p := ⟨gb621, _, none⟩) NB614_621.out _).trans (((cell_far (p := ⟨gb621, _, none⟩) NB614_621.out _).trans (((cell_far (p := ⟨gb621, _, none⟩) NB614_621.out _).trans (((cell_far (p := ⟨gb621, _, none⟩) NB614_621.out _).trans (hHeld.1)))))))), ((cell_far (p := ⟨gb621, _, none⟩) NB614_621.out _).trans (((cell_far (p := ⟨gb621, _, none⟩) NB614_621.out _).trans (((cell_far (p := ⟨gb621, _, none⟩) NB614_621.out _).trans (((cell_far (p := ⟨gb621, _, none⟩) NB614_621.out _).trans (hHeld.2.1)))))))), ((cell_far (p := ⟨gb621, _, none⟩) NB614_621.out _).trans (((cell_far (p := ⟨gb621, _, none⟩) NB614_621.out _).trans (((cell_far (p := ⟨gb621, _, none⟩) NB614_621.out _).trans (((cell_far (p := ⟨gb621, _, none⟩) NB614_621.out _).trans (hHeld.2.2.1)))))))), ((cell_far (p := ⟨gb621, _, none⟩) NB614_621.out _).trans (((cell_far (p := ⟨gb621, _, none⟩) NB614_621.out _).trans (((cell_far (p := ⟨gb621, _, none⟩) NB614_621.out _).trans (((cell_far (p := ⟨gb621, _, none⟩) NB614_621.out _).trans (hHeld.2.2.2))))))))⟩ (fun hHeld => ?_)
        clear hK K
        refine pure_ (i := 10) (N := some 8) (v := ?_) (a' := ?_) #[true, true, true, true, true, true, true, true, true, true, true] rfl rfl (any_of HT_.out (by kernel_rfl)) (fun _ _ _ h => h) (Or.inl ⟨by rfl, ?_⟩) ?_ ?_
        rotate_left
        ·intro w'
         go_simp
         with_reducible rfl
        rotate_left
        ·simp only [Act.put, List.setIfInBounds_toArray, List.set_cons_zero, List.set_cons_succ, i64_w, i32_w]
         rfl
        refine done_ (done_of HT_.out (by kernel_rfl)) ?_
        try go_wp2
        have n0_ : Aside0 (((((w28.setCell ⟨gb621, 0, none⟩ (.string t616)).setCell ⟨gb621, 1, none⟩ (.string t617)).setCell ⟨gb621, 2, none⟩ (.string t618)).setCell ⟨gb621, 3, none⟩ (.bool t619)).heap[gb614]? = some (.cells #[.string t609, .string t610, .string t611, .bool t612] 24 (0, 0))) := ⟨by (with_reducible repeat (first | refine blk_drewN ?_ _ | refine blk_drew ?_ | refine blk_alloc ?_ _)); refine blk_far ?_ NB614_621.out _; (with_reducible repeat (first | refine blk_drewN ?_ _ | refine blk_drew ?_ | refine blk_alloc ?_ _)); refine blk_far ?_ NB614_621.out _; (with_reducible repeat (first | refine blk_drewN ?_ _ | refine blk_drew ?_ | refine blk_alloc ?_ _)); refine blk_far ?_ NB614_621.out _; (with_reducible repeat (first | refine blk_drewN ?_ _ | refine blk_drew ?_ | refine blk_alloc ?_ _)); refine blk_far ?_ NB614_621.out _; (with_reducible repeat (first | refine blk_drewN ?_ _ | refine blk_drew ?_ | refine blk_alloc ?_ _)); exact BK614.out⟩
        have n1_ : Aside0 (((((w28.setCell ⟨gb621, 0, none⟩ (.string t616)).setCell ⟨gb621, 1, none⟩ (.string t617)).setCell ⟨gb621, 2, none⟩ (.string t618)).setCell ⟨gb621, 3, none⟩ (.bool t619)).heap[gb621]? = some (.cells #[.string t616, .string t617, .string t618, .bool t619] 24 (0, 0))) := ⟨by (with_reducible repeat (first | refine blk_drewN ?_ _ | refine blk_drew ?_ | refine blk_alloc ?_ _)); refine blk_put (cs := #[.string t616, .string t617, .string t618, .bool false]) ?_ 3 _ rfl; (with_reducible repeat (first | refine blk_drewN ?_ _ | refine blk_drew ?_ | refine blk_alloc ?_ _)); refine blk_put (cs := #[.string t616, .string t617, .string (⟨#[]⟩ : ByteArray), .bool false]) ?_ 2 _ rfl; (with_reducible repeat (first | refine blk_drewN ?_ _ | refine blk_drew ?_ | refine blk_alloc ?_ _)); refine blk_put (cs := #[.string t616, .string (⟨#[]⟩ : ByteArray), .string (⟨#[]⟩ : ByteArray), .bool false]) ?_ 1 _ rfl; (with_reducible repeat (first | refine blk_drewN ?_ _ | refine blk_drew ?_ | refine blk_alloc ?_ _)); refine blk_put (cs := #[.string (⟨#[]⟩ : ByteArray), .string (⟨#[]⟩ : ByteArray), .string (⟨#[]⟩ : ByteArray), .bool false]) ?_ 0 _ rfl; (with_reducible repeat (first | refine blk_drewN ?_ _ | refine blk_drew ?_ | refine blk_alloc ?_ _)); exact BK621.out⟩
        have n2_ : Aside0 (Below w.heap.size w ((((w28.setCell ⟨gb621, 0, none⟩ (.string t616)).setCell ⟨gb621, 1, none⟩ (.string t617)).setCell ⟨gb621, 2, none⟩ (.string t618)).setCell ⟨gb621, 3, none⟩ (.bool t619))) := ⟨by repeat (first | (with_reducible first | exact HB.out | apply below_alloc | apply pw_below_drewN | apply below_drew1 | refine below_set ?_ GE614.out | refine below_set ?_ GE621.out) | exact HB.out)⟩
        (try clear BK614)
        (try clear BK621)
        (try clear HB)
        generalize ((((w28.setCell ⟨gb621, 0, none⟩ (.string t616)).setCell ⟨gb621, 1, none⟩ (.string t617)).setCell ⟨gb621, 2, none⟩ (.string t618)).setCell ⟨gb621, 3, none⟩ (.bool t619)) = w33 at n0_ n1_ n2_ ⊢
        have BK614 := n0_
        have BK621 := n1_
        have HB := n2_
        clear n0_ n1_ n2_
        have n0_ := Aside0.mk (blk_drew BK614.out)
        have n1_ := Aside0.mk (blk_drew BK621.out)
        have n2_ := Aside0.mk (below_drew1 HB.out)
        clear BK614
        clear BK621
        clear HB
        have BK614 := n0_
        have BK621 := n1_
        have HB := n2_
        clear n0_ n1_ n2_
        refine start_ (n := 13) (S := fun w' => w'.cell? ⟨gb614, 0, none⟩ = some (.string t609) ∧ w'.cell? ⟨gb614, 1, none⟩ = some (.string t610) ∧ w'.cell? ⟨gb614, 2, none⟩ = some (.string t611) ∧ w'.cell? ⟨gb614, 3, none⟩ = some (.bool t612)) (ds := []) #[false, false, false, false, false, false, false, false, false, false, false, false, false] (by kernel_rfl) rfl rfl ⟨(blk_cell BK614.out 0).trans rfl, (blk_cell BK614.out 1).trans rfl, (blk_cell BK614.out 2).trans rfl, (blk_cell BK614.out 3).trans rfl⟩ (fun hHeld => ?_); refine with_tabW pantrylaw08_PlaceBack.tab9 pantrylaw08_PlaceBack.bits9 (fun HT_ HW_ => ?_)
        generalize w33.drew = w34 at BK614 BK621 HB hHeld ⊢
        refine pure_ (i := 0) (N := some 38) (v := ?_) (a' := ?_) #[true, false, false, false, false, false, false, false, false, false, false, false, false] rfl rfl (any_of HT_.out (by kernel_rfl)) (fun _ _ _ h => h) (Or.inl ⟨by rfl, ?_⟩) ?_ ?_
        rotate_left
        ·intro w'
         go_simp
         with_reducible rfl
        rotate_left
        ·simp only [Act.put, List.setIfInBounds_toArray, List.set_cons_zero, List.set_cons_succ, i64_w, i32_w]
         rfl
        refine take_ (i := 1) (N := some 39) (v := ?_) (a' := ?_) #[true, true, false, false, false, false, false, false, false, false, false, false, false] rfl rfl (take_ofW HT_.out HW_.out (by kernel_rfl)) (fun _ _ _ h => h) (Or.inl ⟨by rfl, ?_⟩) hHeld ?_ ?_
        rotate_left
        ·rintro w' ⟨s0, s1, s2, s3⟩
         go_simp
         with_reducible rfl
        rotate_left
        ·simp only [Act.put, List.setIfInBounds_toArray, List.set_cons_zero, List.set_cons_succ, i64_w, i32_w]
         rfl
        refine pure_ (i := 2) (N := some 40) (v := ?_) (a' := ?_) #[true, true, true, false, false, false, false, false, false, false, false, false, false] rfl rfl (any_of HT_.out (by kernel_rfl)) (fun _ _ _ h => h) (Or.inl ⟨by rfl, ?_⟩) ?_ ?_
        rotate_left
        ·intro w'
         go_simp
         with_reducible rfl
        rotate_left
        ·simp only [Act.put, List.setIfInBounds_toArray, List.set_cons_zero, List.set_cons_succ, i64_w, i32_w]
         rfl
        refine take_ (i := 3) (N := some 41) (v := ?_) (a' := ?_) #[true, true, true, true, false, false, false, false, false, false, false, false, false] rfl rfl (take_ofW HT_.out HW_.out (by kernel_rfl)) (fun _ _ _ h => h) (Or.inl ⟨by rfl, ?_⟩) hHeld ?_ ?_
        rotate_left
        ·rintro w' ⟨s0, s1, s2, s3⟩
         go_simp
         with_reducible rfl
        rotate_left
        ·simp only [Act.put, List.setIfInBounds_toArray, List.set_cons_zero, List.set_cons_succ, i64_w, i32_w]
         rfl
        refine join_ (σ := Nat) 2 #[true, true, true, true, true, true, true, true, true, true, true, false, false] (fun s_ => [(42, .string t615), (44, .tuple #[.agg #[.string t623, .string t624, .string t625, .bool t626], .int .i64 t627]), (9, .pointer (some ⟨s_, 0, none⟩)), (43, .string (((⟨#[72, 84, 84, 80, 58, 47, 47]⟩ : ByteArray) ++ t609) ++ t615)), (37, .tuple #[.agg #[.string t623, .string t624, .string t625, .bool t626], .int .i64 t627]), (45, .agg #[.string t623, .string t624, .string t625, .bool t626]), (46, .int .i64 t627)]) (fun s_ w' => (w'.cell? ⟨gb614, 0, none⟩ = some (.string t609) ∧ w'.cell? ⟨gb614, 1, none⟩ = some (.string t610) ∧ w'.cell? ⟨gb614, 2, none⟩ = some (.string t611) ∧ w'.cell? ⟨gb614, 3, none⟩ = some (.bool t612)) ∧ (w'.heap[gb614]? = some (.cells #[.string t609, .string t610, .string t611, .bool t612] 24 (0, 0))) ∧ (w'.heap[gb621]? = some (.cells #[.string t616, .string t617, .string t618, .bool t619] 24 (0, 0))) ∧ (w'.heap[s_]? = some (.cells #[.string (⟨#[]⟩ : ByteArray), .string (⟨#[]⟩ : ByteArray), .string (⟨#[]⟩ : ByteArray), .bool false] 24 (0, 0))) ∧ (w.heap.size ≤ s_) ∧ (w.heap.size ≤ s_) ∧ (gb614 ≠ s_) ∧ (s_ ≠ gb614) ∧ (gb621 ≠ s_) ∧ (s_ ≠ gb621) ∧ (Below w.heap.size w w')) ?_ ?_
        rotate_left
        ·intro hCont
         refine two_ (i := 4) (j := 10) (Ni := some 42) (Nj := some 9) #[true, true, true, true, true, false, false, false, false, false, false, false, false] #[true, true, true, true, false, false, false, false, false, false, true, false, false] rfl rfl rfl rfl (two_of HT_.out (by kernel_rfl)) (by decide) (by decide) (fun K hK => ?_) (fun K hK => ?_)
         ·skip
          refine goes_ Tryd.func16 (by kernel_rfl) rfl #[.agg #[.string t609, .string t610, .string t611, .bool t612]] (by rfl) rfl rfl (by (try simp only [List.map_toArray, List.map_cons, List.map_nil]); first | done | rfl | (simp only [List.length_drop, List.length_take]; rfl)) ?_
          with_reducible refine (place_Place_Show.calls t609 t610 t611 t612 t615 _ A14.out).mono ?_
          rintro e w35 ⟨rfl, hb⟩
          refine ⟨_, rfl, ?_⟩
          have n0_ := Aside0.mk (blk_below (g := gb614) (o := .cells #[.string t609, .string t610, .string t611, .bool t612] 24 (0, 0)) (by (with_reducible repeat (first | refine blk_drewN ?_ _ | refine blk_drew ?_ | refine blk_alloc ?_ _)); exact BK614.out) hb)
          have n1_ := Aside0.mk (blk_below (g := gb621) (o := .cells #[.string t616, .string t617, .string t618, .bool t619] 24 (0, 0)) (by (with_reducible repeat (first | refine blk_drewN ?_ _ | refine blk_drew ?_ | refine blk_alloc ?_ _)); exact BK621.out) hb)
          have n2_ := Aside0.mk (below_step (by repeat (first | (with_reducible first | exact HB.out | apply below_alloc | apply pw_below_drewN | apply below_drew1 | refine below_set ?_ GE614.out | refine below_set ?_ GE621.out) | exact HB.out)) hb)
          clear BK614
          clear BK621
          clear HB
          have BK614 := n0_
          have BK621 := n1_
          have HB := n2_
          clear n0_ n1_ n2_
          (try clear hb)
          (try clear hb2)
          (try clear hk)
          (try clear hi)
          refine hK.out _ _ ⟨(blk_cell BK614.out 0).trans rfl, (blk_cell BK614.out 1).trans rfl, (blk_cell BK614.out 2).trans rfl, (blk_cell BK614.out 3).trans rfl⟩ (fun hHeld => ?_)
          clear hK K
          refine norm_ (a' := ?_) ?_ ?_
          rotate_left
          ·show Act.put _ (some 42) _ = _
           simp only [Act.put, List.setIfInBounds_toArray, List.set_cons_zero, List.set_cons_succ, i64_w, i32_w]
           rfl
          refine pure_ (i := 5) (N := some 43) (v := ?_) (a' := ?_) #[true, true, true, true, true, true, false, false, false, false, false, false, false] rfl rfl (any_of HT_.out (by kernel_rfl)) (fun _ _ _ h => h) (Or.inl ⟨by rfl, ?_⟩) ?_ ?_
          rotate_left
          ·intro w'
           go_simp
           with_reducible rfl
          rotate_left
          ·simp only [Act.put, List.setIfInBounds_toArray, List.set_cons_zero, List.set_cons_succ, i64_w, i32_w]
           rfl
          refine two_ (i := 6) (j := 10) (Ni := some 44) (Nj := some 9) #[true, true, true, true, true, true, true, false, false, false, false, false, false] #[true, true, true, true, true, true, false, false, false, false, true, false, false] rfl rfl rfl rfl (two_of HT_.out (by kernel_rfl)) (by decide) (by decide) (fun K hK => ?_) (fun K hK => ?_)
          ·skip
           refine goes_ Tryd.func11 (by kernel_rfl) rfl #[.string (((⟨#[72, 84, 84, 80, 58, 47, 47]⟩ : ByteArray) ++ t609) ++ t615), .string (⟨#[]⟩ : ByteArray)] (by rfl) rfl rfl (by (try simp only [List.map_toArray, List.map_cons, List.map_nil]); first | done | rfl | (simp only [List.length_drop, List.length_take]; rfl)) ?_
           with_reducible refine (place_Read.calls kj4 (((⟨#[72, 84, 84, 80, 58, 47, 47]⟩ : ByteArray) ++ t609) ++ t615) (⟨#[]⟩ : ByteArray) t623 t624 t625 t626 t627 _ A16.out).mono ?_
           rintro e w36 ⟨rfl, hb⟩
           refine ⟨_, rfl, ?_⟩
           have n0_ := Aside0.mk (blk_below (g := gb614) (o := .cells #[.string t609, .string t610, .string t611, .bool t612] 24 (0, 0)) (by (with_reducible repeat (first | refine blk_drewN ?_ _ | refine blk_drew ?_ | refine blk_alloc ?_ _)); exact BK614.out) hb)
           have n1_ := Aside0.mk (blk_below (g := gb621) (o := .cells #[.string t616, .string t617, .string t618, .bool t619] 24 (0, 0)) (by (with_reducible repeat (first | refine blk_drewN ?_ _ | refine blk_drew ?_ | refine blk_alloc ?_ _)); exact BK621.out) hb)
           have n2_ := Aside0.mk (below_step (by repeat (first | (with_reducible first | exact HB.out | apply below_alloc | apply pw_below_drewN | apply below_drew1 | refine below_set ?_ GE614.out | refine below_set ?_ GE621.out) | exact HB.out)) hb)
           clear BK614
           clear BK621
           clear HB
           have BK614 := n0_
           have BK621 := n1_
           have HB := n2_
           clear n0_ n1_ n2_
           (try clear hb)
           (try clear hb2)
           (try clear hk)
           (try clear hi)
           refine hK.out _ _ ⟨(blk_cell BK614.out 0).trans rfl, (blk_cell BK614.out 1).trans rfl, (blk_cell BK614.out 2).trans rfl, (blk_cell BK614.out 3).trans rfl⟩ (fun hHeld => ?_)
           clear hK K
           refine norm_ (a' := ?_) ?_ ?_
           rotate_left
           ·show Act.put _ (some 44) _ = _
            simp only [Act.put, List.setIfInBounds_toArray, List.set_cons_zero, List.set_cons_succ, i64_w, i32_w]
            rfl
           refine pure_ (i := 7) (N := some 37) (v := ?_) (a' := ?_) #[true, true, true, true, true, true, true, true, false, false, false, false, false] rfl rfl (any_of HT_.out (by kernel_rfl)) (fun _ _ _ h => h) (Or.inl ⟨by rfl, ?_⟩) ?_ ?_
           rotate_left
           ·intro w'
            go_simp
            with_reducible rfl
           rotate_left
           ·simp only [Act.put, List.setIfInBounds_toArray, List.set_cons_zero, List.set_cons_succ, i64_w, i32_w]
            rfl
           refine pure_ (i := 8) (N := some 45) (v := ?_) (a' := ?_) #[true, true, true, true, true, true, true, true, true, false, false, false, false] rfl rfl (any_of HT_.out (by kernel_rfl)) (fun _ _ _ h => h) (Or.inl ⟨by rfl, ?_⟩) ?_ ?_
           rotate_left
           ·intro w'
            go_simp
            with_reducible rfl
           rotate_left
           ·simp only [Act.put, List.setIfInBounds_toArray, List.set_cons_zero, List.set_cons_succ, i64_w, i32_w]
            rfl
           refine pure_ (i := 9) (N := some 46) (v := ?_) (a' := ?_) #[true, true, true, true, true, true, true, true, true, true, false, false, false] rfl rfl (any_of HT_.out (by kernel_rfl)) (fun _ _ _ h => h) (Or.inl ⟨by rfl, ?_⟩) ?_ ?_
           rotate_left
           ·intro w'
            go_simp
            with_reducible rfl
           rotate_left
           ·simp only [Act.put, List.setIfInBounds_toArray, List.set_cons_zero, List.set_cons_succ, i64_w, i32_w]
            rfl
           refine one_ (i := 10) (N := some 9) #[true, true, true, true, true, true, true, true, true, true, true, false, false] rfl rfl (one_of HT_.out (by kernel_rfl)) (by decide) (fun K hK => ?_)
           refine box_step ?hg (N := 9) ?hd (cs := #[.string (⟨#[]⟩ : ByteArray), .string (⟨#[]⟩ : ByteArray), .string (⟨#[]⟩ : ByteArray), .bool false]) (t := 24) ?hr ?_; (case hd => rfl); (case hg => rfl); (case hr => first | (go_simp; done) | (go_simp; rfl))
           intro gb628 hg w37 hbox hb
           have n0_ := Aside0.mk (blk_below (g := gb614) (o := .cells #[.string t609, .string t610, .string t611, .bool t612] 24 (0, 0)) (by (with_reducible repeat (first | refine blk_drewN ?_ _ | refine blk_drew ?_ | refine blk_alloc ?_ _)); exact BK614.out) hb)
           have n1_ := Aside0.mk (blk_below (g := gb621) (o := .cells #[.string t616, .string t617, .string t618, .bool t619] 24 (0, 0)) (by (with_reducible repeat (first | refine blk_drewN ?_ _ | refine blk_drew ?_ | refine blk_alloc ?_ _)); exact BK621.out) hb)
           have n2_ := Aside0.mk (below_step (by repeat (first | (with_reducible first | exact HB.out | apply below_alloc | apply pw_below_drewN | apply below_drew1 | refine below_set ?_ GE614.out | refine below_set ?_ GE621.out) | exact HB.out)) hb)
           have n3_ := Aside0.mk (hbox)
           have n4_ := Aside0.mk ((by rw [hg]; exact (below_size (by repeat (first | (with_reducible first | exact HB.out | apply below_alloc | apply pw_below_drewN | apply below_drew1 | refine below_set ?_ GE614.out | refine below_set ?_ GE621.out) | exact HB.out))) : w.heap.size ≤ gb628))
           have n5_ := Aside0.mk ((by rw [hg]; exact (below_size (by repeat (first | (with_reducible first | exact HB.out | apply below_alloc | apply pw_below_drewN | apply below_drew1 | refine below_set ?_ GE614.out | refine below_set ?_ GE621.out) | exact HB.out))) : w.heap.size ≤ gb628))
           have n6_ := Aside0.mk ((by rw [hg]; exact Nat.ne_of_lt (blk_lt (g := gb614) (o := .cells #[.string t609, .string t610, .string t611, .bool t612] 24 (0, 0)) (by (with_reducible repeat (first | refine blk_drewN ?_ _ | refine blk_drew ?_ | refine blk_alloc ?_ _)); exact BK614.out)) : gb614 ≠ gb628))
           have n7_ := Aside0.mk ((by rw [hg]; exact Nat.ne_of_gt (blk_lt (g := gb614) (o := .cells #[.string t609, .string t610, .string t611, .bool t612] 24 (0, 0)) (by (with_reducible repeat (first | refine blk_drewN ?_ _ | refine blk_drew ?_ | refine blk_alloc ?_ _)); exact BK614.out)) : gb628 ≠ gb614))
           have n8_ := Aside0.mk ((by rw [hg]; exact Nat.ne_of_lt (blk_lt (g := gb621) (o := .cells #[.string t616, .string t617, .string t618, .bool t619] 24 (0, 0)) (by (with_reducible repeat (first | refine blk_drewN ?_ _ | refine blk_drew ?_ | refine blk_alloc ?_ _)); exact BK621.out)) : gb621 ≠ gb628))
           have n9_ := Aside0.mk ((by rw [hg]; exact Nat.ne_of_gt (blk_lt (g := gb621) (o := .cells #[.string t616, .string t617, .string t618, .bool t619] 24 (0, 0)) (by (with_reducible repeat (first | refine blk_drewN ?_ _ | refine blk_drew ?_ | refine blk_alloc ?_ _)); exact BK621.out)) : gb628 ≠ gb621))
           clear BK614
           clear BK621
           clear HB
           have BK614 := n0_
           have BK621 := n1_
           have HB := n2_
           have BK628 := n3_
           have GW628 := n4_
           have GE628 := n5_
           have NB614_628 := n6_
           have NB628_614 := n7_
           have NB621_628 := n8_
           have NB628_621 := n9_
           clear n0_ n1_ n2_ n3_ n4_ n5_ n6_ n7_ n8_ n9_
           clear hb hbox hg
           refine hK.out _ _ ⟨(blk_cell BK614.out 0).trans rfl, (blk_cell BK614.out 1).trans rfl, (blk_cell BK614.out 2).trans rfl, (blk_cell BK614.out 3).trans rfl⟩ (fun hHeld => ?_)
           clear hK K
           refine norm_ (a' := ?_) ?_ ?_
           rotate_left
           ·show Act.put _ (some 9) _ = _
            simp only [Act.put, List.setIfInBounds_toArray, List.set_cons_zero, List.set_cons_succ, i64_w, i32_w]
            rfl
           exact norm_ (by simp only [putAll, Act.put, List.setIfInBounds_toArray, List.set_cons_zero, List.set_cons_succ]) (hCont (gb628) _ ⟨hHeld, (by (with_reducible repeat (first | refine blk_drewN ?_ _ | refine blk_drew ?_ | refine blk_alloc ?_ _)); exact BK614.out), (by (with_reducible repeat (first | refine blk_drewN ?_ _ | refine blk_drew ?_ | refine blk_alloc ?_ _)); exact BK621.out), (by (with_reducible repeat (first | refine blk_drewN ?_ _ | refine blk_drew ?_ | refine blk_alloc ?_ _)); exact BK628.out), GW628.out, GE628.out, NB614_628.out, NB628_614.out, NB621_628.out, NB628_621.out, (by repeat (first | (with_reducible first | exact HB.out | apply below_alloc | apply pw_below_drewN | apply below_drew1 | refine below_set ?_ GE614.out | refine below_set ?_ GE621.out | refine below_set ?_ GE628.out) | exact HB.out))⟩)
          ·skip
           refine box_step ?hg (N := 9) ?hd (cs := #[.string (⟨#[]⟩ : ByteArray), .string (⟨#[]⟩ : ByteArray), .string (⟨#[]⟩ : ByteArray), .bool false]) (t := 24) ?hr ?_; (case hd => rfl); (case hg => rfl); (case hr => first | (go_simp; done) | (go_simp; rfl))
           intro gb628 hg w36 hbox hb
           have n0_ := Aside0.mk (blk_below (g := gb614) (o := .cells #[.string t609, .string t610, .string t611, .bool t612] 24 (0, 0)) (by (with_reducible repeat (first | refine blk_drewN ?_ _ | refine blk_drew ?_ | refine blk_alloc ?_ _)); exact BK614.out) hb)
           have n1_ := Aside0.mk (blk_below (g := gb621) (o := .cells #[.string t616, .string t617, .string t618, .bool t619] 24 (0, 0)) (by (with_reducible repeat (first | refine blk_drewN ?_ _ | refine blk_drew ?_ | refine blk_alloc ?_ _)); exact BK621.out) hb)
           have n2_ := Aside0.mk (below_step (by repeat (first | (with_reducible first | exact HB.out | apply below_alloc | apply pw_below_drewN | apply below_drew1 | refine below_set ?_ GE614.out | refine below_set ?_ GE621.out) | exact HB.out)) hb)
           have n3_ := Aside0.mk (hbox)
           have n4_ := Aside0.mk ((by rw [hg]; exact (below_size (by repeat (first | (with_reducible first | exact HB.out | apply below_alloc | apply pw_below_drewN | apply below_drew1 | refine below_set ?_ GE614.out | refine below_set ?_ GE621.out) | exact HB.out))) : w.heap.size ≤ gb628))
           have n5_ := Aside0.mk ((by rw [hg]; exact (below_size (by repeat (first | (with_reducible first | exact HB.out | apply below_alloc | apply pw_below_drewN | apply below_drew1 | refine below_set ?_ GE614.out | refine below_set ?_ GE621.out) | exact HB.out))) : w.heap.size ≤ gb628))
           have n6_ := Aside0.mk ((by rw [hg]; exact Nat.ne_of_lt (blk_lt (g := gb614) (o := .cells #[.string t609, .string t610, .string t611, .bool t612] 24 (0, 0)) (by (with_reducible repeat (first | refine blk_drewN ?_ _ | refine blk_drew ?_ | refine blk_alloc ?_ _)); exact BK614.out)) : gb614 ≠ gb628))
           have n7_ := Aside0.mk ((by rw [hg]; exact Nat.ne_of_gt (blk_lt (g := gb614) (o := .cells #[.string t609, .string t610, .string t611, .bool t612] 24 (0, 0)) (by (with_reducible repeat (first | refine blk_drewN ?_ _ | refine blk_drew ?_ | refine blk_alloc ?_ _)); exact BK614.out)) : gb628 ≠ gb614))
           have n8_ := Aside0.mk ((by rw [hg]; exact Nat.ne_of_lt (blk_lt (g := gb621) (o := .cells #[.string t616, .string t617, .string t618, .bool t619] 24 (0, 0)) (by (with_reducible repeat (first | refine blk_drewN ?_ _ | refine blk_drew ?_ | refine blk_alloc ?_ _)); exact BK621.out)) : gb621 ≠ gb628))
           have n9_ := Aside0.mk ((by rw [hg]; exact Nat.ne_of_gt (blk_lt (g := gb621) (o := .cells #[.string t616, .string t617, .string t618, .bool t619] 24 (0, 0)) (by (with_reducible repeat (first | refine blk_drewN ?_ _ | refine blk_drew ?_ | refine blk_alloc ?_ _)); exact BK621.out)) : gb628 ≠ gb621))
           clear BK614
           clear BK621
           clear HB
           have BK614 := n0_
           have BK621 := n1_
           have HB := n2_
           have BK628 := n3_
           have GW628 := n4_
           have GE628 := n5_
           have NB614_628 := n6_
           have NB628_614 := n7_
           have NB621_628 := n8_
           have NB628_621 := n9_
           clear n0_ n1_ n2_ n3_ n4_ n5_ n6_ n7_ n8_ n9_
           clear hb hbox hg
           refine hK.out _ _ ⟨(blk_cell BK614.out 0).trans rfl, (blk_cell BK614.out 1).trans rfl, (blk_cell BK614.out 2).trans rfl, (blk_cell BK614.out 3).trans rfl⟩ (fun hHeld => ?_)
           clear hK K
           refine norm_ (a' := ?_) ?_ ?_
           rotate_left
           ·show Act.put _ (some 9) _ = _
            simp only [Act.put, List.setIfInBounds_toArray, List.set_cons_zero, List.set_cons_succ, i64_w, i32_w]
            rfl
           refine one_ (i := 6) (N := some 44) #[true, true, true, true, true, true, true, false, false, false, true, false, false] rfl rfl (one_of HT_.out (by kernel_rfl)) (by decide) (fun K hK => ?_)
           refine goes_ Tryd.func11 (by kernel_rfl) rfl #[.string (((⟨#[72, 84, 84, 80, 58, 47, 47]⟩ : ByteArray) ++ t609) ++ t615), .string (⟨#[]⟩ : ByteArray)] (by rfl) rfl rfl (by (try simp only [List.map_toArray, List.map_cons, List.map_nil]); first | done | rfl | (simp only [List.length_drop, List.length_take]; rfl)) ?_
           with_reducible refine (place_Read.calls kj4 (((⟨#[72, 84, 84, 80, 58, 47, 47]⟩ : ByteArray) ++ t609) ++ t615) (⟨#[]⟩ : ByteArray) t623 t624 t625 t626 t627 _ A16.out).mono ?_
           rintro e w37 ⟨rfl, hb⟩
           refine ⟨_, rfl, ?_⟩
           have n0_ := Aside0.mk (blk_below (g := gb614) (o := .cells #[.string t609, .string t610, .string t611, .bool t612] 24 (0, 0)) (by (with_reducible repeat (first | refine blk_drewN ?_ _ | refine blk_drew ?_ | refine blk_alloc ?_ _)); exact BK614.out) hb)
           have n1_ := Aside0.mk (blk_below (g := gb621) (o := .cells #[.string t616, .string t617, .string t618, .bool t619] 24 (0, 0)) (by (with_reducible repeat (first | refine blk_drewN ?_ _ | refine blk_drew ?_ | refine blk_alloc ?_ _)); exact BK621.out) hb)
           have n2_ := Aside0.mk (blk_below (g := gb628) (o := .cells #[.string (⟨#[]⟩ : ByteArray), .string (⟨#[]⟩ : ByteArray), .string (⟨#[]⟩ : ByteArray), .bool false] 24 (0, 0)) (by (with_reducible repeat (first | refine blk_drewN ?_ _ | refine blk_drew ?_ | refine blk_alloc ?_ _)); exact BK628.out) hb)
           have n3_ := Aside0.mk (below_step (by repeat (first | (with_reducible first | exact HB.out | apply below_alloc | apply pw_below_drewN | apply below_drew1 | refine below_set ?_ GE614.out | refine below_set ?_ GE621.out | refine below_set ?_ GE628.out) | exact HB.out)) hb)
           clear BK614
           clear BK621
           clear BK628
           clear HB
           have BK614 := n0_
           have BK621 := n1_
           have BK628 := n2_
           have HB := n3_
           clear n0_ n1_ n2_ n3_
           (try clear hb)
           (try clear hb2)
           (try clear hk)
           (try clear hi)
           refine hK.out _ _ ⟨(blk_cell BK614.out 0).trans rfl, (blk_cell BK614.out 1).trans rfl, (blk_cell BK614.out 2).trans rfl, (blk_cell BK614.out 3).trans rfl⟩ (fun hHeld => ?_)
           clear hK K
           refine norm_ (a' := ?_) ?_ ?_
           rotate_left
           ·show Act.put _ (some 44) _ = _
            simp only [Act.put, List.setIfInBounds_toArray, List.set_cons_zero, List.set_cons_succ, i64_w, i32_w]
            rfl
           refine pure_ (i := 7) (N := some 37) (v := ?_) (a' := ?_) #[true, true, true, true, true, true, true, true, false, false, true, false, false] rfl rfl (any_of HT_.out (by kernel_rfl)) (fun _ _ _ h => h) (Or.inl ⟨by rfl, ?_⟩) ?_ ?_
           rotate_left
           ·intro w'
            go_simp
            with_reducible rfl
           rotate_left
           ·simp only [Act.put, List.setIfInBounds_toArray, List.set_cons_zero, List.set_cons_succ, i64_w, i32_w]
            rfl
           refine pure_ (i := 8) (N := some 45) (v := ?_) (a' := ?_) #[true, true, true, true, true, true, true, true, true, false, true, false, false] rfl rfl (any_of HT_.out (by kernel_rfl)) (fun _ _ _ h => h) (Or.inl ⟨by rfl, ?_⟩) ?_ ?_
           rotate_left
           ·intro w'
            go_simp
            with_reducible rfl
           rotate_left
           ·simp only [Act.put, List.setIfInBounds_toArray, List.set_cons_zero, List.set_cons_succ, i64_w, i32_w]
            rfl
           refine pure_ (i := 9) (N := some 46) (v := ?_) (a' := ?_) #[true, true, true, true, true, true, true, true, true, true, true, false, false] rfl rfl (any_of HT_.out (by kernel_rfl)) (fun _ _ _ h => h) (Or.inl ⟨by rfl, ?_⟩) ?_ ?_
           rotate_left
           ·intro w'
            go_simp
            with_reducible rfl
           rotate_left
           ·simp only [Act.put, List.setIfInBounds_toArray, List.set_cons_zero, List.set_cons_succ, i64_w, i32_w]
            rfl
           exact norm_ (by simp only [putAll, Act.put, List.setIfInBounds_toArray, List.set_cons_zero, List.set_cons_succ]) (hCont (gb628) _ ⟨hHeld, (by (with_reducible repeat (first | refine blk_drewN ?_ _ | refine blk_drew ?_ | refine blk_alloc ?_ _)); exact BK614.out), (by (with_reducible repeat (first | refine blk_drewN ?_ _ | refine blk_drew ?_ | refine blk_alloc ?_ _)); exact BK621.out), (by (with_reducible repeat (first | refine blk_drewN ?_ _ | refine blk_drew ?_ | refine blk_alloc ?_ _)); exact BK628.out), GW628.out, GE628.out, NB614_628.out, NB628_614.out, NB621_628.out, NB628_621.out, (by repeat (first | (with_reducible first | exact HB.out | apply below_alloc | apply pw_below_drewN | apply below_drew1 | refine below_set ?_ GE614.out | refine below_set ?_ GE621.out | refine below_set ?_ GE628.out) | exact HB.out))⟩)
         ·skip
          refine box_step ?hg (N := 9) ?hd (cs := #[.string (⟨#[]⟩ : ByteArray), .string (⟨#[]⟩ : ByteArray), .string (⟨#[]⟩ : ByteArray), .bool false]) (t := 24) ?hr ?_; (case hd => rfl); (case hg => rfl); (case hr => first | (go_simp; done) | (go_simp; rfl))
          intro gb628 hg w35 hbox hb
          have n0_ := Aside0.mk (blk_below (g := gb614) (o := .cells #[.string t609, .string t610, .string t611, .bool t612] 24 (0, 0)) (by (with_reducible repeat (first | refine blk_drewN ?_ _ | refine blk_drew ?_ | refine blk_alloc ?_ _)); exact BK614.out) hb)
          have n1_ := Aside0.mk (blk_below (g := gb621) (o := .cells #[.string t616, .string t617, .string t618, .bool t619] 24 (0, 0)) (by (with_reducible repeat (first | refine blk_drewN ?_ _ | refine blk_drew ?_ | refine blk_alloc ?_ _)); exact BK621.out) hb)
          have n2_ := Aside0.mk (below_step (by repeat (first | (with_reducible first | exact HB.out | apply below_alloc | apply pw_below_drewN | apply below_drew1 | refine below_set ?_ GE614.out | refine below_set ?_ GE621.out) | exact HB.out)) hb)
          have n3_ := Aside0.mk (hbox)
          have n4_ := Aside0.mk ((by rw [hg]; exact (below_size (by repeat (first | (with_reducible first | exact HB.out | apply below_alloc | apply pw_below_drewN | apply below_drew1 | refine below_set ?_ GE614.out | refine below_set ?_ GE621.out) | exact HB.out))) : w.heap.size ≤ gb628))
          have n5_ := Aside0.mk ((by rw [hg]; exact (below_size (by repeat (first | (with_reducible first | exact HB.out | apply below_alloc | apply pw_below_drewN | apply below_drew1 | refine below_set ?_ GE614.out | refine below_set ?_ GE621.out) | exact HB.out))) : w.heap.size ≤ gb628))
          have n6_ := Aside0.mk ((by rw [hg]; exact Nat.ne_of_lt (blk_lt (g := gb614) (o := .cells #[.string t609, .string t610, .string t611, .bool t612] 24 (0, 0)) (by (with_reducible repeat (first | refine blk_drewN ?_ _ | refine blk_drew ?_ | refine blk_alloc ?_ _)); exact BK614.out)) : gb614 ≠ gb628))
          have n7_ := Aside0.mk ((by rw [hg]; exact Nat.ne_of_gt (blk_lt (g := gb614) (o := .cells #[.string t609, .string t610, .string t611, .bool t612] 24 (0, 0)) (by (with_reducible repeat (first | refine blk_drewN ?_ _ | refine blk_drew ?_ | refine blk_alloc ?_ _)); exact BK614.out)) : gb628 ≠ gb614))
          have n8_ := Aside0.mk ((by rw [hg]; exact Nat.ne_of_lt (blk_lt (g := gb621) (o := .cells #[.string t616, .string t617, .string t618, .bool t619] 24 (0, 0)) (by (with_reducible repeat (first | refine blk_drewN ?_ _ | refine blk_drew ?_ | refine blk_alloc ?_ _)); exact BK621.out)) : gb621 ≠ gb628))
          have n9_ := Aside0.mk ((by rw [hg]; exact Nat.ne_of_gt (blk_lt (g := gb621) (o := .cells #[.string t616, .string t617, .string t618, .bool t619] 24 (0, 0)) (by (with_reducible repeat (first | refine blk_drewN ?_ _ | refine blk_drew ?_ | refine blk_alloc ?_ _)); exact BK621.out)) : gb628 ≠ gb621))
          clear BK614
          clear BK621
          clear HB
          have BK614 := n0_
          have BK621 := n1_
          have HB := n2_
          have BK628 := n3_
          have GW628 := n4_
          have GE628 := n5_
          have NB614_628 := n6_
          have NB628_614 := n7_
          have NB621_628 := n8_
          have NB628_621 := n9_
          clear n0_ n1_ n2_ n3_ n4_ n5_ n6_ n7_ n8_ n9_
          clear hb hbox hg
          refine hK.out _ _ ⟨(blk_cell BK614.out 0).trans rfl, (blk_cell BK614.out 1).trans rfl, (blk_cell BK614.out 2).trans rfl, (blk_cell BK614.out 3).trans rfl⟩ (fun hHeld => ?_)
          clear hK K
          refine norm_ (a' := ?_) ?_ ?_
          rotate_left
          ·show Act.put _ (some 9) _ = _
           simp only [Act.put, List.setIfInBounds_toArray, List.set_cons_zero, List.set_cons_succ, i64_w, i32_w]
           rfl
          refine one_ (i := 4) (N := some 42) #[true, true, true, true, true, false, false, false, false, false, true, false, false] rfl rfl (one_of HT_.out (by kernel_rfl)) (by decide) (fun K hK => ?_)
          refine goes_ Tryd.func16 (by kernel_rfl) rfl #[.agg #[.string t609, .string t610, .string t611, .bool t612]] (by rfl) rfl rfl (by (try simp only [List.map_toArray, List.map_cons, List.map_nil]); first | done | rfl | (simp only [List.length_drop, List.length_take]; rfl)) ?_
          with_reducible refine (place_Place_Show.calls t609 t610 t611 t612 t615 _ A14.out).mono ?_
          rintro e w36 ⟨rfl, hb⟩
          refine ⟨_, rfl, ?_⟩
          have n0_ := Aside0.mk (blk_below (g := gb614) (o := .cells #[.string t609, .string t610, .string t611, .bool t612] 24 (0, 0)) (by (with_reducible repeat (first | refine blk_drewN ?_ _ | refine blk_drew ?_ | refine blk_alloc ?_ _)); exact BK614.out) hb)
          have n1_ := Aside0.mk (blk_below (g := gb621) (o := .cells #[.string t616, .string t617, .string t618, .bool t619] 24 (0, 0)) (by (with_reducible repeat (first | refine blk_drewN ?_ _ | refine blk_drew ?_ | refine blk_alloc ?_ _)); exact BK621.out) hb)
          have n2_ := Aside0.mk (blk_below (g := gb628) (o := .cells #[.string (⟨#[]⟩ : ByteArray), .string (⟨#[]⟩ : ByteArray), .string (⟨#[]⟩ : ByteArray), .bool false] 24 (0, 0)) (by (with_reducible repeat (first | refine blk_drewN ?_ _ | refine blk_drew ?_ | refine blk_alloc ?_ _)); exact BK628.out) hb)
          have n3_ := Aside0.mk (below_step (by repeat (first | (with_reducible first | exact HB.out | apply below_alloc | apply pw_below_drewN | apply below_drew1 | refine below_set ?_ GE614.out | refine below_set ?_ GE621.out | refine below_set ?_ GE628.out) | exact HB.out)) hb)
          clear BK614
          clear BK621
          clear BK628
          clear HB
          have BK614 := n0_
          have BK621 := n1_
          have BK628 := n2_
          have HB := n3_
          clear n0_ n1_ n2_ n3_
          (try clear hb)
          (try clear hb2)
          (try clear hk)
          (try clear hi)
          refine hK.out _ _ ⟨(blk_cell BK614.out 0).trans rfl, (blk_cell BK614.out 1).trans rfl, (blk_cell BK614.out 2).trans rfl, (blk_cell BK614.out 3).trans rfl⟩ (fun hHeld => ?_)
          clear hK K
          refine norm_ (a' := ?_) ?_ ?_
          rotate_left
          ·show Act.put _ (some 42) _ = _
           simp only [Act.put, List.setIfInBounds_toArray, List.set_cons_zero, List.set_cons_succ, i64_w, i32_w]
           rfl
          refine pure_ (i := 5) (N := some 43) (v := ?_) (a' := ?_) #[true, true, true, true, true, true, false, false, false, false, true, false, false] rfl rfl (any_of HT_.out (by kernel_rfl)) (fun _ _ _ h => h) (Or.inl ⟨by rfl, ?_⟩) ?_ ?_
          rotate_left
          ·intro w'
           go_simp
           with_reducible rfl
          rotate_left
          ·simp only [Act.put, List.setIfInBounds_toArray, List.set_cons_zero, List.set_cons_succ, i64_w, i32_w]
           rfl
          refine one_ (i := 6) (N := some 44) #[true, true, true, true, true, true, true, false, false, false, true, false, false] rfl rfl (one_of HT_.out (by kernel_rfl)) (by decide) (fun K hK => ?_)
          refine goes_ Tryd.func11 (by kernel_rfl) rfl #[.string (((⟨#[72, 84, 84, 80, 58, 47, 47]⟩ : ByteArray) ++ t609) ++ t615), .string (⟨#[]⟩ : ByteArray)] (by rfl) rfl rfl (by (try simp only [List.map_toArray, List.map_cons, List.map_nil]); first | done | rfl | (simp only [List.length_drop, List.length_take]; rfl)) ?_
          with_reducible refine (place_Read.calls kj4 (((⟨#[72, 84, 84, 80, 58, 47, 47]⟩ : ByteArray) ++ t609) ++ t615) (⟨#[]⟩ : ByteArray) t623 t624 t625 t626 t627 _ A16.out).mono ?_
          rintro e w37 ⟨rfl, hb⟩
          refine ⟨_, rfl, ?_⟩
          have n0_ := Aside0.mk (blk_below (g := gb614) (o := .cells #[.string t609, .string t610, .string t611, .bool t612] 24 (0, 0)) (by (with_reducible repeat (first | refine blk_drewN ?_ _ | refine blk_drew ?_ | refine blk_alloc ?_ _)); exact BK614.out) hb)
          have n1_ := Aside0.mk (blk_below (g := gb621) (o := .cells #[.string t616, .string t617, .string t618, .bool t619] 24 (0, 0)) (by (with_reducible repeat (first | refine blk_drewN ?_ _ | refine blk_drew ?_ | refine blk_alloc ?_ _)); exact BK621.out) hb)
          have n2_ := Aside0.mk (blk_below (g := gb628) (o := .cells #[.string (⟨#[]⟩ : ByteArray), .string (⟨#[]⟩ : ByteArray), .string (⟨#[]⟩ : ByteArray), .bool false] 24 (0, 0)) (by (with_reducible repeat (first | refine blk_drewN ?_ _ | refine blk_drew ?_ | refine blk_alloc ?_ _)); exact BK628.out) hb)
          have n3_ := Aside0.mk (below_step (by repeat (first | (with_reducible first | exact HB.out | apply below_alloc | apply pw_below_drewN | apply below_drew1 | refine below_set ?_ GE614.out | refine below_set ?_ GE621.out | refine below_set ?_ GE628.out) | exact HB.out)) hb)
          clear BK614
          clear BK621
          clear BK628
          clear HB
          have BK614 := n0_
          have BK621 := n1_
          have BK628 := n2_
          have HB := n3_
          clear n0_ n1_ n2_ n3_
          (try clear hb)
          (try clear hb2)
          (try clear hk)
          (try clear hi)
          refine hK.out _ _ ⟨(blk_cell BK614.out 0).trans rfl, (blk_cell BK614.out 1).trans rfl, (blk_cell BK614.out 2).trans rfl, (blk_cell BK614.out 3).trans rfl⟩ (fun hHeld => ?_)
          clear hK K
          refine norm_ (a' := ?_) ?_ ?_
          rotate_left
          ·show Act.put _ (some 44) _ = _
           simp only [Act.put, List.setIfInBounds_toArray, List.set_cons_zero, List.set_cons_succ, i64_w, i32_w]
           rfl
          refine pure_ (i := 7) (N := some 37) (v := ?_) (a' := ?_) #[true, true, true, true, true, true, true, true, false, false, true, false, false] rfl rfl (any_of HT_.out (by kernel_rfl)) (fun _ _ _ h => h) (Or.inl ⟨by rfl, ?_⟩) ?_ ?_
          rotate_left
          ·intro w'
           go_simp
           with_reducible rfl
          rotate_left
          ·simp only [Act.put, List.setIfInBounds_toArray, List.set_cons_zero, List.set_cons_succ, i64_w, i32_w]
           rfl
          refine pure_ (i := 8) (N := some 45) (v := ?_) (a' := ?_) #[true, true, true, true, true, true, true, true, true, false, true, false, false] rfl rfl (any_of HT_.out (by kernel_rfl)) (fun _ _ _ h => h) (Or.inl ⟨by rfl, ?_⟩) ?_ ?_
          rotate_left
          ·intro w'
           go_simp
           with_reducible rfl
          rotate_left
          ·simp only [Act.put, List.setIfInBounds_toArray, List.set_cons_zero, List.set_cons_succ, i64_w, i32_w]
           rfl
          refine pure_ (i := 9) (N := some 46) (v := ?_) (a' := ?_) #[true, true, true, true, true, true, true, true, true, true, true, false, false] rfl rfl (any_of HT_.out (by kernel_rfl)) (fun _ _ _ h => h) (Or.inl ⟨by rfl, ?_⟩) ?_ ?_
          rotate_left
          ·intro w'
           go_simp
           with_reducible rfl
          rotate_left
          ·simp only [Act.put, List.setIfInBounds_toArray, List.set_cons_zero, List.set_cons_succ, i64_w, i32_w]
           rfl
          exact norm_ (by simp only [putAll, Act.put, List.setIfInBounds_toArray, List.set_cons_zero, List.set_cons_succ]) (hCont (gb628) _ ⟨hHeld, (by (with_reducible repeat (first | refine blk_drewN ?_ _ | refine blk_drew ?_ | refine blk_alloc ?_ _)); exact BK614.out), (by (with_reducible repeat (first | refine blk_drewN ?_ _ | refine blk_drew ?_ | refine blk_alloc ?_ _)); exact BK621.out), (by (with_reducible repeat (first | refine blk_drewN ?_ _ | refine blk_drew ?_ | refine blk_alloc ?_ _)); exact BK628.out), GW628.out, GE628.out, NB614_628.out, NB628_614.out, NB621_628.out, NB628_621.out, (by repeat (first | (with_reducible first | exact HB.out | apply below_alloc | apply pw_below_drewN | apply below_drew1 | refine below_set ?_ GE614.out | refine below_set ?_ GE621.out | refine below_set ?_ GE628.out) | exact HB.out))⟩)
        rintro gb628 w38 ⟨hS_, h0_, h1_, h2_, h3_, h4_, h5_, h6_, h7_, h8_, h9_⟩
        have n0_ : Aside0 (w38.heap[gb614]? = some (.cells #[.string t609, .string t610, .string t611, .bool t612] 24 (0, 0))) := ⟨h0_⟩
        have n1_ : Aside0 (w38.heap[gb621]? = some (.cells #[.string t616, .string t617, .string t618, .bool t619] 24 (0, 0))) := ⟨h1_⟩
        have n2_ : Aside0 (w38.heap[gb628]? = some (.cells #[.string (⟨#[]⟩ : ByteArray), .string (⟨#[]⟩ : ByteArray), .string (⟨#[]⟩ : ByteArray), .bool false] 24 (0, 0))) := ⟨h2_⟩
        have n3_ : Aside0 (w.heap.size ≤ gb628) := ⟨h3_⟩
        have n4_ : Aside0 (w.heap.size ≤ gb628) := ⟨h4_⟩
        have n5_ : Aside0 (gb614 ≠ gb628) := ⟨h5_⟩
        have n6_ : Aside0 (gb628 ≠ gb614) := ⟨h6_⟩
        have n7_ : Aside0 (gb621 ≠ gb628) := ⟨h7_⟩
        have n8_ : Aside0 (gb628 ≠ gb621) := ⟨h8_⟩
        have n9_ : Aside0 (Below w.heap.size w w38) := ⟨h9_⟩
        clear BK614
        clear BK621
        clear HB
        clear h0_ h1_ h2_ h3_ h4_ h5_ h6_ h7_ h8_ h9_
        have BK614 := n0_
        have BK621 := n1_
        have BK628 := n2_
        have GW628 := n3_
        have GE628 := n4_
        have NB614_628 := n5_
        have NB628_614 := n6_
        have NB621_628 := n7_
        have NB628_621 := n8_
        have HB := n9_
        clear n0_ n1_ n2_ n3_ n4_ n5_ n6_ n7_ n8_ n9_
        have hHeld : w38.cell? ⟨gb614, 0, none⟩ = some (.string t609) ∧ w38.cell? ⟨gb614, 1, none⟩ = some (.string t610) ∧ w38.cell? ⟨gb614, 2, none⟩ = some (.string t611) ∧ w38.cell? ⟨gb614, 3, none⟩ = some (.bool t612) := hS_
        refine norm_ (a' := ?_) ?_ ?_
        rotate_left
        ·simp only [putAll, Act.put, List.setIfInBounds_toArray, List.set_cons_zero, List.set_cons_succ]
         rfl
        refine one_ (i := 11) (N := none) #[true, true, true, true, true, true, true, true, true, true, true, true, false] rfl rfl (one_of HT_.out (by kernel_rfl)) (by decide) (fun K hK => ?_)
        have hs39 : w38.cell? ⟨gb628, 0, none⟩ = some (.string (⟨#[]⟩ : ByteArray)) := (blk_cell BK628.out 0).trans rfl
        have hfs39 := blk_frozen BK628.out 0
        have hns39_0 := NB614_628.out
        have hns39_1 := NB621_628.out
        have hms39_0 := NB628_614.out
        have hms39_1 := NB628_621.out
        have hs40 : w38.cell? ⟨gb628, 1, none⟩ = some (.string (⟨#[]⟩ : ByteArray)) := (blk_cell BK628.out 1).trans rfl
        have hfs40 := blk_frozen BK628.out 1
        have hns40_0 := NB614_628.out
        have hns40_1 := NB621_628.out
        have hms40_0 := NB628_614.out
        have hms40_1 := NB628_621.out
        have hs41 : w38.cell? ⟨gb628, 2, none⟩ = some (.string (⟨#[]⟩ : ByteArray)) := (blk_cell BK628.out 2).trans rfl
        have hfs41 := blk_frozen BK628.out 2
        have hns41_0 := NB614_628.out
        have hns41_1 := NB621_628.out
        have hms41_0 := NB628_614.out
        have hms41_1 := NB628_621.out
        have hs42 : w38.cell? ⟨gb628, 3, none⟩ = some (.bool false) := (blk_cell BK628.out 3).trans rfl
        have hfs42 := blk_frozen BK628.out 3
        have hns42_0 := NB614_628.out
        have hns42_1 := NB621_628.out
        have hms42_0 := NB628_614.out
        have hms42_1 := NB628_621.out
        refine skip_ (w1 := ?_) (by rfl) rfl ?_ ?_
        rotate_left
        ·go_simp
         rfl
        refine hK.out _ _ ⟨((cell_far (p := ⟨gb628, _, none⟩) NB614_628.out _).trans (((cell_far (p := ⟨gb628, _, none⟩) NB614_628.out _).trans (((cell_far (p := ⟨gb628, _, none⟩) NB614_628.out _).trans (((cell_far (p := ⟨gb628, _, none⟩) NB614_628.out _).trans (hHeld.1)))))))), ((cell_far (p := ⟨gb628, _, none⟩) NB614_628.out _).trans (((cell_far (p := ⟨gb628, _, none⟩) NB614_628.out _).trans (((cell_far (p := ⟨gb628, _, none⟩) NB614_628.out _).trans (((cell_far (p := ⟨gb628, _, none⟩) NB614_628.out _).trans (hHeld.2.1)))))))), ((cell_far (p := ⟨gb628, _, none⟩) NB614_628.out _).trans (((cell_far (p := ⟨gb628, _, none⟩) NB614_628.out _).trans (((cell_far (p := ⟨gb628, _, none⟩) NB614_628.out _).trans (((cell_far (p := ⟨gb628, _, none⟩) NB614_628.out _).trans (hHeld.2.2.1)))))))), ((cell_far (p := ⟨gb628, _, none⟩) NB614_628.out _).trans (((cell_far (p := ⟨gb628, _, none⟩) NB614_628.out _).trans (((cell_far (p := ⟨gb628, _, none⟩) NB614_628.out _).trans (((cell_far (p := ⟨gb628, _, none⟩) NB614_628.out _).trans (hHeld.2.2.2))))))))⟩ (fun hHeld => ?_)
        clear hK K
        refine pure_ (i := 12) (N := some 10) (v := ?_) (a' := ?_) #[true, true, true, true, true, true, true, true, true, true, true, true, true] rfl rfl (any_of HT_.out (by kernel_rfl)) (fun _ _ _ h => h) (Or.inl ⟨by rfl, ?_⟩) ?_ ?_
        rotate_left
        ·intro w'
         go_simp
         with_reducible rfl
        rotate_left
        ·simp only [Act.put, List.setIfInBounds_toArray, List.set_cons_zero, List.set_cons_succ, i64_w, i32_w]
         rfl
        refine done_ (done_of HT_.out (by kernel_rfl)) ?_
        have hnb43 := NB621_614.out
        have hnc43 := NB614_621.out
        have hnb44 := NB621_628.out
        have hnc44 := NB628_621.out
        have hcz45_0 : w38.cell? ⟨gb621, 0, none⟩ = some (.string t616) := (blk_cell BK621.out 0).trans rfl
        have hcz45_1 : w38.cell? ⟨gb621, 1, none⟩ = some (.string t617) := (blk_cell BK621.out 1).trans rfl
        have hcz45_2 : w38.cell? ⟨gb621, 2, none⟩ = some (.string t618) := (blk_cell BK621.out 2).trans rfl
        have hcz45_3 : w38.cell? ⟨gb621, 3, none⟩ = some (.bool t619) := (blk_cell BK621.out 3).trans rfl
        have hfz45_0 := blk_frozen BK621.out 0
        have hfz45_1 := blk_frozen BK621.out 1
        have hfz45_2 := blk_frozen BK621.out 2
        have hfz45_3 := blk_frozen BK621.out 3
        have hnb46 := NB614_628.out
        have hnc46 := NB628_614.out
        have hcz47_0 : w38.cell? ⟨gb614, 0, none⟩ = some (.string t609) := (blk_cell BK614.out 0).trans rfl
        have hcz47_1 : w38.cell? ⟨gb614, 1, none⟩ = some (.string t610) := (blk_cell BK614.out 1).trans rfl
        have hcz47_2 : w38.cell? ⟨gb614, 2, none⟩ = some (.string t611) := (blk_cell BK614.out 2).trans rfl
        have hcz47_3 : w38.cell? ⟨gb614, 3, none⟩ = some (.bool t612) := (blk_cell BK614.out 3).trans rfl
        have hfz47_0 := blk_frozen BK614.out 0
        have hfz47_1 := blk_frozen BK614.out 1
        have hfz47_2 := blk_frozen BK614.out 2
        have hfz47_3 := blk_frozen BK614.out 3
        have hcz48_0 : w38.cell? ⟨gb628, 0, none⟩ = some (.string (⟨#[]⟩ : ByteArray)) := (blk_cell BK628.out 0).trans rfl
        have hcz48_1 : w38.cell? ⟨gb628, 1, none⟩ = some (.string (⟨#[]⟩ : ByteArray)) := (blk_cell BK628.out 1).trans rfl
        have hcz48_2 : w38.cell? ⟨gb628, 2, none⟩ = some (.string (⟨#[]⟩ : ByteArray)) := (blk_cell BK628.out 2).trans rfl
        have hcz48_3 : w38.cell? ⟨gb628, 3, none⟩ = some (.bool false) := (blk_cell BK628.out 3).trans rfl
        have hfz48_0 := blk_frozen BK628.out 0
        have hfz48_1 := blk_frozen BK628.out 1
        have hfz48_2 := blk_frozen BK628.out 2
        have hfz48_3 := blk_frozen BK628.out 3
        have H := HLate.out
        clear HLate
        by_cases c17 : t620 = 0
        ·rw [if_pos c17] at H
         have c17b0 : (t620 == 0) = true := beq_iff_eq.mpr c17
         have c17b1 : (t620 != 0) = false := bne_eq_false_iff_eq.mpr c17
         clear c17
         by_cases c18 : t627 = 0
         ·rw [if_pos c18] at H
          have c18b0 : (t627 == 0) = true := beq_iff_eq.mpr c18
          have c18b1 : (t627 != 0) = false := bne_eq_false_iff_eq.mpr c18
          clear c18
          by_cases c19 : (t616.toList == t609.toList && (t617.toList == t610.toList && (t618.toList == t611.toList && (t619 == t612)))) = true
          ·rw [if_pos c19] at H
           have c19b0 : (t616.toList == t609.toList && (t617.toList == t610.toList && (t618.toList == t611.toList && (t619 == t612)))) = true := c19
           (try (have c19b1 : decide (t616.toList = t609.toList && (t617.toList == t610.toList && (t618.toList == t611.toList && (t619 == t612)))) = true := by simpa using c19))
           (try (have c19b2 : (t616.toList == t609.toList && (t617.toList == t610.toList && (t618.toList == t611.toList && (t619 == t612)))) = true := by simpa using c19))
           clear c19
           obtain rfl := Option.some.inj H
           try go_wp2
           all_goals first | (go_ret; refine ⟨?_, ?_⟩; (first | rfl | (simp <;> rfl) | (simp [*] <;> rfl) | (simp [ne_nil_B, eq_nil_B]; done) | (simp [ne_nil_B, eq_nil_B] <;> rfl)); (repeat (first | (with_reducible first | exact HB.out | apply below_alloc | apply pw_below_drewN | apply below_drew1 | refine below_set ?_ GE614.out | refine below_set ?_ GE621.out | refine below_set ?_ GE628.out) | exact HB.out)); done) | (exfalso; (try clear c19b1); (try clear c19b2); (try clear c19b3); revert c19b0; simp [*]; done)
          ·rw [if_neg c19] at H
           have c19b0 : (t616.toList == t609.toList && (t617.toList == t610.toList && (t618.toList == t611.toList && (t619 == t612)))) = false := by simpa using c19
           (try (have c19b1 : decide (t616.toList = t609.toList && (t617.toList == t610.toList && (t618.toList == t611.toList && (t619 == t612)))) = false := by simpa using c19))
           (try (have c19b2 : (t616.toList == t609.toList && (t617.toList == t610.toList && (t618.toList == t611.toList && (t619 == t612)))) = false := by simpa using c19))
           (try (have c19b3 : ¬ (t616.toList = t609.toList && (t617.toList == t610.toList && (t618.toList == t611.toList && (t619 == t612)))) := by simpa using c19))
           clear c19
           obtain rfl := Option.some.inj H
           try go_wp2
           all_goals first | (go_ret; refine ⟨?_, ?_⟩; (first | rfl | (simp <;> rfl) | (simp [*] <;> rfl) | (simp [ne_nil_B, eq_nil_B]; done) | (simp [ne_nil_B, eq_nil_B] <;> rfl)); (repeat (first | (with_reducible first | exact HB.out | apply below_alloc | apply pw_below_drewN | apply below_drew1 | refine below_set ?_ GE614.out | refine below_set ?_ GE621.out | refine below_set ?_ GE628.out) | exact HB.out)); done) | (exfalso; (try clear c19b1); (try clear c19b2); (try clear c19b3); revert c19b0; simp [*]; done)
         ·rw [if_neg c18] at H
          have c18b0 : (t627 == 0) = false := beq_eq_false_iff_ne.mpr c18
          have c18b1 : (t627 != 0) = true := bne_iff_ne.mpr c18
          obtain rfl := Option.some.inj H
          try go_wp2
          all_goals first | (go_ret; refine ⟨?_, ?_⟩; (first | rfl | (simp <;> rfl) | (simp [*] <;> rfl) | (simp [ne_nil_B, eq_nil_B]; done) | (simp [ne_nil_B, eq_nil_B] <;> rfl)); (repeat (first | (with_reducible first | exact HB.out | apply below_alloc | apply pw_below_drewN | apply below_drew1 | refine below_set ?_ GE614.out | refine below_set ?_ GE621.out | refine below_set ?_ GE628.out) | exact HB.out)); done) | (exfalso; (try clear c19b1); (try clear c19b2); (try clear c19b3); revert c19b0; simp [*]; done)
        ·rw [if_neg c17] at H
         have c17b0 : (t620 == 0) = false := beq_eq_false_iff_ne.mpr c17
         have c17b1 : (t620 != 0) = true := bne_iff_ne.mpr c17
         obtain rfl := Option.some.inj H
         try go_wp2
         all_goals first | (go_ret; refine ⟨?_, ?_⟩; (first | rfl | (simp <;> rfl) | (simp [*] <;> rfl) | (simp [ne_nil_B, eq_nil_B]; done) | (simp [ne_nil_B, eq_nil_B] <;> rfl)); (repeat (first | (with_reducible first | exact HB.out | apply below_alloc | apply pw_below_drewN | apply below_drew1 | refine below_set ?_ GE614.out | refine below_set ?_ GE621.out | refine below_set ?_ GE628.out) | exact HB.out)); done) | (exfalso; (try clear c19b1); (try clear c19b2); (try clear c19b3); revert c19b0; simp [*]; done)
       ·rw [if_neg c15] at H
        exact absurd H (by simp)
      ·rw [if_neg c13] at H
       exact absurd H (by simp)
     ·rw [if_neg c10] at H
      have c10b0 : (t613 == 0) = false := beq_eq_false_iff_ne.mpr c10
      have c10b1 : (t613 != 0) = true := bne_iff_ne.mpr c10
      obtain rfl := Option.some.inj H
      go_wp2_with (first | ((with_reducible refine gate_callee (f := 11) rfl ?_); refine goesL_ (some 24) rfl rfl Tryd.func11 (by kernel_rfl) rfl #[.string a0, .string a1] rfl (by (try simp only [List.map_toArray, List.map_cons, List.map_nil]); first | done | rfl | (simp only [List.length_drop, List.length_take]; rfl)) ?_; (with_reducible refine (place_Read.calls kj4 a0 a1 t609 t610 t611 t612 t613 _ A9.out).mono ?_); rintro e w123 ⟨rfl, hb⟩; refine ⟨_, rfl, ?_⟩; have n0_ := Aside0.mk (below_step (by repeat (first | (with_reducible first | exact HB.out | apply below_alloc | apply pw_below_drewN | apply below_drew1) | exact HB.out)) hb); clear HB; have HB := n0_; clear n0_; (try clear hb); (try clear hb2); (try clear hk); (try clear hi)) | ((with_reducible refine gate_dst (N := 5) rfl ?_); (try (refine gate_guard (by rfl) ?_; dsimp only)); refine box_event ?hg (N := 5) ?hd (cs := #[.string (⟨#[]⟩ : ByteArray), .string (⟨#[]⟩ : ByteArray), .string (⟨#[]⟩ : ByteArray), .bool false]) (t := 24) ?hr ?_; (case hd => rfl); (case hg => rfl); (case hr => first | (go_simp; done) | (go_simp; rfl)); intro gb614 hg w124 hbox hb; have n0_ := Aside0.mk (below_step (by repeat (first | (with_reducible first | exact HB.out | apply below_alloc | apply pw_below_drewN | apply below_drew1) | exact HB.out)) hb); have n1_ := Aside0.mk (hbox); have n2_ := Aside0.mk ((by rw [hg]; exact (below_size (by repeat (first | (with_reducible first | exact HB.out | apply below_alloc | apply pw_below_drewN | apply below_drew1) | exact HB.out))) : w.heap.size ≤ gb614)); have n3_ := Aside0.mk ((by rw [hg]; exact (below_size (by repeat (first | (with_reducible first | exact HB.out | apply below_alloc | apply pw_below_drewN | apply below_drew1) | exact HB.out))) : w.heap.size ≤ gb614)); clear HB; have HB := n0_; have BK614 := n1_; have GW614 := n2_; have GE614 := n3_; clear n0_ n1_ n2_ n3_; clear hb hbox hg; have hcz125_0 : w124.cell? ⟨gb614, 0, none⟩ = some (.string (⟨#[]⟩ : ByteArray)) := (blk_cell BK614.out 0).trans rfl; have hcz125_1 : w124.cell? ⟨gb614, 1, none⟩ = some (.string (⟨#[]⟩ : ByteArray)) := (blk_cell BK614.out 1).trans rfl; have hcz125_2 : w124.cell? ⟨gb614, 2, none⟩ = some (.string (⟨#[]⟩ : ByteArray)) := (blk_cell BK614.out 2).trans rfl; have hcz125_3 : w124.cell? ⟨gb614, 3, none⟩ = some (.bool false) := (blk_cell BK614.out 3).trans rfl; have hfz125_0 := blk_frozen BK614.out 0; have hfz125_1 := blk_frozen BK614.out 1; have hfz125_2 := blk_frozen BK614.out 2; have hfz125_3 := blk_frozen BK614.out 3))
      all_goals first | (go_ret; refine ⟨?_, ?_⟩; (first | rfl | (simp <;> rfl) | (simp [*] <;> rfl) | (simp [ne_nil_B, eq_nil_B]; done) | (simp [ne_nil_B, eq_nil_B] <;> rfl)); (repeat (first | (with_reducible first | exact HB.out | apply below_alloc | apply pw_below_drewN | apply below_drew1 | refine below_set ?_ GE614.out) | exact HB.out)); done) | (exfalso; (try clear c19b1); (try clear c19b2); (try clear c19b3); revert c19b0; simp [*]; done)
 ·replace c4 := Bool.eq_false_iff.mpr c4
  subst c4
  have H1 : (some false) = some r := by rw [if_neg (show ¬ (false = true) by decide)] at H; exact H
  clear H
  have H := H1
  clear H1
  obtain rfl := Option.some.inj H
  go_enter Tryd.func9, Tryd.ntmps9
  go_wp2_with (first | ((with_reducible refine gate_callee (f := 10) rfl ?_); refine goesL_ (some 11) rfl rfl Tryd.func10 (by kernel_rfl) rfl #[] rfl (by (try simp only [List.map_toArray, List.map_cons, List.map_nil]); first | done | rfl | (simp only [List.length_drop, List.length_take]; rfl)) ?_; (with_reducible refine (pantrylaw08_anchor.calls k  false _ A3.out).mono ?_); rintro e w126 ⟨rfl, hb⟩; refine ⟨_, rfl, ?_⟩; have n0_ := Aside0.mk (below_step (by repeat (first | (with_reducible first | exact HB.out | apply below_alloc | apply pw_below_drewN | apply below_drew1) | exact HB.out)) hb); clear HB; have HB := n0_; clear n0_; (try clear hb); (try clear hb2); (try clear hk); (try clear hi)))
  all_goals first | (go_ret; refine ⟨?_, ?_⟩; (first | rfl | (simp <;> rfl) | (simp [*] <;> rfl) | (simp [ne_nil_B, eq_nil_B]; done) | (simp [ne_nil_B, eq_nil_B] <;> rfl)); (repeat (first | (with_reducible first | exact HB.out | apply below_alloc | apply pw_below_drewN | apply below_drew1) | exact HB.out)); done) | (exfalso; (try clear c19b1); (try clear c19b2); (try clear c19b3); revert c19b0; simp [*]; done)
end Go.Proofs.YtgkgljendffhlaaDoor.P
