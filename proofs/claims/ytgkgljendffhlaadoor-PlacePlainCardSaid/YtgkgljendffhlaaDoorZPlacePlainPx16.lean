import Derived.Test.YtgkgljendffhlaaDoorZPlacePlainPx0
import Derived.Test.YtgkgljendffhlaaDoorZPlacePlainPx6
namespace Go.Proofs.YtgkgljendffhlaaDoor.P
open Go.RowKit Go.Proofs.YtgkgljendffhlaaDoorW.PrintWords Go.Proofs.YtgkgljendffhlaaDoorW.PrintLast Go.Proofs.YtgkgljendffhlaaDoorW.PrintMore
attribute [local go_sem] max2_int min2_int max_two min_two max_three min_three max_four min_four u8_div16 u8_mod16
set_option linter.unusedVariables false
set_option linter.unusedSimpArgs false
/-! ### pantrylaw08_PlacePlain: function 7 -/
mutual
def pantrylaw08_PlacePlain.j0 : Nat → Bool → ByteArray → ByteArray → ByteArray → Bool → Option (Bool)
 | 0, _, _, _, _, _ => none
 | k + 1, x46, x586000, x586001, x586002, x586003 => if x46 = true then (some false) else (pantrylaw08_PlacePlain.l0 k 1 1 x586000 x586001 x586002 x586003)
def pantrylaw08_PlacePlain.l0 : Nat → Int → Int → ByteArray → ByteArray → ByteArray → Bool → Option (Bool)
 | 0, _, _, _, _, _, _ => none
 | k + 1, x5, x6, x586000, x586001, x586002, x586003 => if x6 ≤ (x586001.size : Int) then (if x6 = (x586001.size : Int) then (pantrylaw08_PlacePlain.j2 k x5 x6 true x586000 x586001 x586002 x586003) else (if 0 ≤ x6 then (if x6 < (x586001.size : Int) then (pantrylaw08_PlacePlain.j2 k x5 x6 ((bt x586001 x6) == 47) x586000 x586001 x586002 x586003) else (none)) else (none))) else ((place_Read.f k x586001 (⟨#[104]⟩ : ByteArray)).bind fun bt586 => (if bt586.2.2.2.2 = 0 then (some (bt586.2.1.toList == x586001.toList)) else (some false)))
def pantrylaw08_PlacePlain.j2 : Nat → Int → Int → Bool → ByteArray → ByteArray → ByteArray → Bool → Option (Bool)
 | 0, _, _, _, _, _, _, _ => none
 | k + 1, x5, x6, x65, x586000, x586001, x586002, x586003 => if x65 = true then (if 0 ≤ x5 then (if x5 ≤ x6 then (if x6 ≤ (x586001.size : Int) then (if (x586001.extract (x5 : Int).toNat (x6 : Int).toNat).toList = ([46] : List UInt8) then (some false) else (if (x586001.extract (x5 : Int).toNat (x6 : Int).toNat).toList = ([46, 46] : List UInt8) then (some false) else (pantrylaw08_PlacePlain.l0 k (wrap64 (x6 + 1)) (wrap64 (x6 + 1)) x586000 x586001 x586002 x586003))) else (none)) else (none)) else (none)) else (pantrylaw08_PlacePlain.l0 k x5 (wrap64 (x6 + 1)) x586000 x586001 x586002 x586003)
end
def pantrylaw08_PlacePlain.f (k : Nat) (a0 : ByteArray) : Option (Bool) := (pantrylaw08_anchor.f k).bind fun t579 => (if t579 = true then (if (a0.size : Int) > 1200 then (some true) else ((place_Read.f k a0 (⟨#[104]⟩ : ByteArray)).bind fun bt580 => (if bt580.2.2.2.2 = 0 then (if bt580.2.1.toList = ([] : List UInt8) then (pantrylaw08_PlacePlain.j0 k true bt580.1 bt580.2.1 bt580.2.2.1 bt580.2.2.2.1) else (if 0 < (bt580.2.1.size : Int) then (if (bt bt580.2.1 0) = 47 then (if (bt580.2.1.size : Int) > 512 then (pantrylaw08_PlacePlain.j0 k true bt580.1 bt580.2.1 bt580.2.2.1 bt580.2.2.2.1) else (if bt580.2.2.2.1 = true then (pantrylaw08_PlacePlain.j0 k false bt580.1 bt580.2.1 bt580.2.2.1 bt580.2.2.2.1) else (pantrylaw08_PlacePlain.j0 k (bt580.2.2.1.toList != ([] : List UInt8)) bt580.1 bt580.2.1 bt580.2.2.1 bt580.2.2.2.1))) else (pantrylaw08_PlacePlain.j0 k true bt580.1 bt580.2.1 bt580.2.2.1 bt580.2.2.2.1)) else (none))) else (some true)))) else (some false))
set_option maxHeartbeats 8000000 in
set_option maxRecDepth 100000 in
theorem pantrylaw08_PlacePlain.calls (k : Nat) (a0 : ByteArray) (r : Bool) (w : World) (h : pantrylaw08_PlacePlain.f k a0 = some r) (hG : GW w := by first | (exact Aside0.out (by assumption)) | (refine GW.via (by assumption) ?_; repeat (first | (exact Aside0.out (by assumption)) | exact Below.refl _ _ | apply below_alloc | apply pw_below_drewN | apply below_drew1 | (refine below_set ?_ (Aside0.out (by assumption)))))) :
  Calls Tryd.prog 7 #[.string a0] w fun e w' => e = .returned (.bool r) ∧ Below w.heap.size w w' := by
 have hu24 := Tryd.underlying24
 have HB := Aside0.mk (Below.refl w.heap.size w)
 have HG := Aside0.mk hG
 clear hG
 have H : ((pantrylaw08_anchor.f k).bind fun t579 => (if t579 = true then (if (a0.size : Int) > 1200 then (some true) else ((place_Read.f k a0 (⟨#[104]⟩ : ByteArray)).bind fun bt580 => (if bt580.2.2.2.2 = 0 then (if bt580.2.1.toList = ([] : List UInt8) then (pantrylaw08_PlacePlain.j0 k true bt580.1 bt580.2.1 bt580.2.2.1 bt580.2.2.2.1) else (if 0 < (bt580.2.1.size : Int) then (if (bt bt580.2.1 0) = 47 then (if (bt580.2.1.size : Int) > 512 then (pantrylaw08_PlacePlain.j0 k true bt580.1 bt580.2.1 bt580.2.2.1 bt580.2.2.2.1) else (if bt580.2.2.2.1 = true then (pantrylaw08_PlacePlain.j0 k false bt580.1 bt580.2.1 bt580.2.2.1 bt580.2.2.2.1) else (pantrylaw08_PlacePlain.j0 k (bt580.2.2.1.toList != ([] : List UInt8)) bt580.1 bt580.2.1 bt580.2.2.1 bt580.2.2.2.1))) else (pantrylaw08_PlacePlain.j0 k true bt580.1 bt580.2.1 bt580.2.2.1 bt580.2.2.2.1)) else (none))) else (some true)))) else (some false))) = some r := h
 clear h
 replace H := Option.bind_eq_some_iff.mp H
 obtain ⟨t579, A20, H⟩ := H
 (try dsimp only at H)
 have A2 := Aside0.mk A20
 clear A20
 by_cases c3 : t579 = true
 ·subst c3
  have H1 : (if (a0.size : Int) > 1200 then (some true) else ((place_Read.f k a0 (⟨#[104]⟩ : ByteArray)).bind fun bt580 => (if bt580.2.2.2.2 = 0 then (if bt580.2.1.toList = ([] : List UInt8) then (pantrylaw08_PlacePlain.j0 k true bt580.1 bt580.2.1 bt580.2.2.1 bt580.2.2.2.1) else (if 0 < (bt580.2.1.size : Int) then (if (bt bt580.2.1 0) = 47 then (if (bt580.2.1.size : Int) > 512 then (pantrylaw08_PlacePlain.j0 k true bt580.1 bt580.2.1 bt580.2.2.1 bt580.2.2.2.1) else (if bt580.2.2.2.1 = true then (pantrylaw08_PlacePlain.j0 k false bt580.1 bt580.2.1 bt580.2.2.1 bt580.2.2.2.1) else (pantrylaw08_PlacePlain.j0 k (bt580.2.2.1.toList != ([] : List UInt8)) bt580.1 bt580.2.1 bt580.2.2.1 bt580.2.2.2.1))) else (pantrylaw08_PlacePlain.j0 k true bt580.1 bt580.2.1 bt580.2.2.1 bt580.2.2.2.1)) else (none))) else (some true)))) = some r := by rw [if_pos rfl] at H; exact H
  clear H
  have H := H1
  clear H1
  by_cases c4 : (a0.size : Int) > 1200
  ·rw [if_pos c4] at H
   have c4b0 : decide (1200 < (a0.size : Int)) = true := decide_eq_true c4
   have c4b1 : decide (1200 < a0.size) = true := decide_eq_true (by omega)
   clear c4
   obtain rfl := Option.some.inj H
   go_enter Tryd.func7, Tryd.ntmps7
   go_wp2_with (first | ((with_reducible refine gate_callee (f := 10) rfl ?_); refine goesL_ (some 10) rfl rfl Tryd.func10 (by kernel_rfl) rfl #[] rfl (by (try simp only [List.map_toArray, List.map_cons, List.map_nil]); first | done | rfl | (simp only [List.length_drop, List.length_take]; rfl)) ?_; (with_reducible refine (pantrylaw08_anchor.calls k  true _ A2.out).mono ?_); rintro e w5 ⟨rfl, hb⟩; refine ⟨_, rfl, ?_⟩; have n0_ := Aside0.mk (below_step (by repeat (first | (with_reducible first | exact HB.out | apply below_alloc | apply pw_below_drewN | apply below_drew1) | exact HB.out)) hb); clear HB; have HB := n0_; clear n0_; (try clear hb); (try clear hb2); (try clear hk); (try clear hi)))
   go_ret
   exact ⟨by first | rfl | (simp <;> rfl) | (simp [*] <;> rfl) | (simp [ne_nil_B, eq_nil_B]; done) | (simp [ne_nil_B, eq_nil_B] <;> rfl), by repeat (first | (with_reducible first | exact HB.out | apply below_alloc | apply pw_below_drewN | apply below_drew1) | exact HB.out)⟩
  ·rw [if_neg c4] at H
   have c4b0 : decide (1200 < (a0.size : Int)) = false := decide_eq_false c4
   have c4b1 : decide (1200 < a0.size) = false := decide_eq_false (by omega)
   clear c4
   replace H := Option.bind_eq_some_iff.mp H
   obtain ⟨⟨t580, t581, t582, t583, t584⟩, A60, H⟩ := H
   (try dsimp only at H)
   have A6 := Aside0.mk A60
   clear A60
   by_cases c7 : t584 = 0
   ·rw [if_pos c7] at H
    have c7b0 : (t584 == 0) = true := beq_iff_eq.mpr c7
    have c7b1 : (t584 != 0) = false := bne_eq_false_iff_eq.mpr c7
    clear c7
    have HC8 := Aside0.mk H
    clear H
    go_enter Tryd.func7, Tryd.ntmps7
    go_upto_region 8 with (first | ((with_reducible refine gate_callee (f := 10) rfl ?_); refine goesL_ (some 10) rfl rfl Tryd.func10 (by kernel_rfl) rfl #[] rfl (by (try simp only [List.map_toArray, List.map_cons, List.map_nil]); first | done | rfl | (simp only [List.length_drop, List.length_take]; rfl)) ?_; (with_reducible refine (pantrylaw08_anchor.calls k  true _ A2.out).mono ?_); rintro e w9 ⟨rfl, hb⟩; refine ⟨_, rfl, ?_⟩; have n0_ := Aside0.mk (below_step (by repeat (first | (with_reducible first | exact HB.out | apply below_alloc | apply pw_below_drewN | apply below_drew1) | exact HB.out)) hb); clear HB; have HB := n0_; clear n0_; (try clear hb); (try clear hb2); (try clear hk); (try clear hi)) | ((with_reducible refine gate_callee (f := 11) rfl ?_); refine goesL_ (some 17) rfl rfl Tryd.func11 (by kernel_rfl) rfl #[.string a0, .string (⟨#[104]⟩ : ByteArray)] rfl (by (try simp only [List.map_toArray, List.map_cons, List.map_nil]); first | done | rfl | (simp only [List.length_drop, List.length_take]; rfl)) ?_; (with_reducible refine (place_Read.calls k a0 (⟨#[104]⟩ : ByteArray) t580 t581 t582 t583 t584 _ A6.out).mono ?_); rintro e w10 ⟨rfl, hb⟩; refine ⟨_, rfl, ?_⟩; have n0_ := Aside0.mk (below_step (by repeat (first | (with_reducible first | exact HB.out | apply below_alloc | apply pw_below_drewN | apply below_drew1) | exact HB.out)) hb); clear HB; have HB := n0_; clear n0_; (try clear hb); (try clear hb2); (try clear hk); (try clear hi)) | ((with_reducible refine gate_dst (N := 3) rfl ?_); (try (refine gate_guard (by rfl) ?_; dsimp only)); refine box_event ?hg (N := 3) ?hd (cs := #[.string (⟨#[]⟩ : ByteArray), .string (⟨#[]⟩ : ByteArray), .string (⟨#[]⟩ : ByteArray), .bool false]) (t := 24) ?hr ?_; (case hd => rfl); (case hg => rfl); (case hr => first | (go_simp; done) | (go_simp; rfl)); intro gb585 hg w11 hbox hb; have n0_ := Aside0.mk (below_step (by repeat (first | (with_reducible first | exact HB.out | apply below_alloc | apply pw_below_drewN | apply below_drew1) | exact HB.out)) hb); have n1_ := Aside0.mk (hbox); have n2_ := Aside0.mk ((by rw [hg]; exact (below_size (by repeat (first | (with_reducible first | exact HB.out | apply below_alloc | apply pw_below_drewN | apply below_drew1) | exact HB.out))) : w.heap.size ≤ gb585)); have n3_ := Aside0.mk ((by rw [hg]; exact (below_size (by repeat (first | (with_reducible first | exact HB.out | apply below_alloc | apply pw_below_drewN | apply below_drew1) | exact HB.out))) : w.heap.size ≤ gb585)); clear HB; have HB := n0_; have BK585 := n1_; have GW585 := n2_; have GE585 := n3_; clear n0_ n1_ n2_ n3_; clear hb hbox hg; have hcz12_0 : w11.cell? ⟨gb585, 0, none⟩ = some (.string (⟨#[]⟩ : ByteArray)) := (blk_cell BK585.out 0).trans rfl; have hcz12_1 : w11.cell? ⟨gb585, 1, none⟩ = some (.string (⟨#[]⟩ : ByteArray)) := (blk_cell BK585.out 1).trans rfl; have hcz12_2 : w11.cell? ⟨gb585, 2, none⟩ = some (.string (⟨#[]⟩ : ByteArray)) := (blk_cell BK585.out 2).trans rfl; have hcz12_3 : w11.cell? ⟨gb585, 3, none⟩ = some (.bool false) := (blk_cell BK585.out 3).trans rfl; have hfz12_0 := blk_frozen BK585.out 0; have hfz12_1 := blk_frozen BK585.out 1; have hfz12_2 := blk_frozen BK585.out 2; have hfz12_3 := blk_frozen BK585.out 3))
    (try simp only [Act.put, List.setIfInBounds_toArray, List.set_cons_zero, List.set_cons_succ])
    go_cut [46] (fun v46 wc => ∃ (kq : Nat) (x46_7 : Bool), v46 = .bool x46_7 ∧ Aside0 (pantrylaw08_PlacePlain.j0 kq x46_7 t580 t581 t582 t583 = some r) ∧ Aside0 (kq ≤ k) ∧ Aside0 (wc.heap[gb585]? = some (.cells #[.string t580, .string t581, .string t582, .bool t583] 24 (0, 0))) ∧ Aside0 (Below w.heap.size w wc))
    case first =>
     have H := HC8.out
     clear HC8
     by_cases c13 : t581.toList = ([] : List UInt8)
     ·rw [if_pos c13] at H
      have c13b0 : (t581.toList == ([] : List UInt8)) = true := beq_iff_eq.mpr c13
      have c13b1 : (t581.toList != ([] : List UInt8)) = false := bne_eq_false_iff_eq.mpr c13
      clear c13
      (first | rw [c13b0] | (simp only [i64_w, i32_w]; rw [c13b0]) | skip)
      have H' := Aside0.mk H
      clear H
      have hcz14_0 : w11.cell? ⟨gb585, 0, none⟩ = some (.string (⟨#[]⟩ : ByteArray)) := (blk_cell BK585.out 0).trans rfl
      have hcz14_1 : w11.cell? ⟨gb585, 1, none⟩ = some (.string (⟨#[]⟩ : ByteArray)) := (blk_cell BK585.out 1).trans rfl
      have hcz14_2 : w11.cell? ⟨gb585, 2, none⟩ = some (.string (⟨#[]⟩ : ByteArray)) := (blk_cell BK585.out 2).trans rfl
      have hcz14_3 : w11.cell? ⟨gb585, 3, none⟩ = some (.bool false) := (blk_cell BK585.out 3).trans rfl
      have hfz14_0 := blk_frozen BK585.out 0
      have hfz14_1 := blk_frozen BK585.out 1
      have hfz14_2 := blk_frozen BK585.out 2
      have hfz14_3 := blk_frozen BK585.out 3
      go_wp2
      go_meet
      case rel => exact ⟨_, (true), (by first | rfl | (simp; done) | (simp [*]; done) | (simp [ne_nil_B, eq_nil_B]; done)), H', ⟨by first | omega | exact Nat.le_refl _⟩, ⟨by (with_reducible repeat (first | refine blk_drewN ?_ _ | refine blk_drew ?_ | refine blk_alloc ?_ _)); refine blk_put (cs := #[.string t580, .string t581, .string t582, .bool false]) ?_ 3 _ rfl; (with_reducible repeat (first | refine blk_drewN ?_ _ | refine blk_drew ?_ | refine blk_alloc ?_ _)); refine blk_put (cs := #[.string t580, .string t581, .string (⟨#[]⟩ : ByteArray), .bool false]) ?_ 2 _ rfl; (with_reducible repeat (first | refine blk_drewN ?_ _ | refine blk_drew ?_ | refine blk_alloc ?_ _)); refine blk_put (cs := #[.string t580, .string (⟨#[]⟩ : ByteArray), .string (⟨#[]⟩ : ByteArray), .bool false]) ?_ 1 _ rfl; (with_reducible repeat (first | refine blk_drewN ?_ _ | refine blk_drew ?_ | refine blk_alloc ?_ _)); refine blk_put (cs := #[.string (⟨#[]⟩ : ByteArray), .string (⟨#[]⟩ : ByteArray), .string (⟨#[]⟩ : ByteArray), .bool false]) ?_ 0 _ rfl; (with_reducible repeat (first | refine blk_drewN ?_ _ | refine blk_drew ?_ | refine blk_alloc ?_ _)); exact BK585.out⟩, ⟨by repeat (first | (with_reducible first | exact HB.out | apply below_alloc | apply pw_below_drewN | apply below_drew1 | refine below_set ?_ GE585.out) | exact HB.out)⟩⟩
     ·rw [if_neg c13] at H
      have c13b0 : (t581.toList == ([] : List UInt8)) = false := beq_eq_false_iff_ne.mpr c13
      have c13b1 : (t581.toList != ([] : List UInt8)) = true := bne_iff_ne.mpr c13
      (first | rw [c13b0] | (simp only [i64_w, i32_w]; rw [c13b0]) | skip)
      by_cases c15 : 0 < (t581.size : Int)
      ·rw [if_pos c15] at H
       have c15b0 : decide (0 < (t581.size : Int)) = true := decide_eq_true c15
       have c15b1 : decide (0 < t581.size) = true := decide_eq_true (by omega)
       clear c15
       by_cases c17 : (bt t581 0) = 47
       ·rw [if_pos c17] at H
        have c17b0 : ((bt t581 0) == 47) = true := beq_iff_eq.mpr c17
        have c17b1 : ((bt t581 0) != 47) = false := bne_eq_false_iff_eq.mpr c17
        clear c17
        by_cases c18 : (t581.size : Int) > 512
        ·rw [if_pos c18] at H
         have c18b0 : decide (512 < (t581.size : Int)) = true := decide_eq_true c18
         have c18b1 : decide (512 < t581.size) = true := decide_eq_true (by omega)
         clear c18
         have H' := Aside0.mk H
         clear H
         have hcz19_0 : w11.cell? ⟨gb585, 0, none⟩ = some (.string (⟨#[]⟩ : ByteArray)) := (blk_cell BK585.out 0).trans rfl
         have hcz19_1 : w11.cell? ⟨gb585, 1, none⟩ = some (.string (⟨#[]⟩ : ByteArray)) := (blk_cell BK585.out 1).trans rfl
         have hcz19_2 : w11.cell? ⟨gb585, 2, none⟩ = some (.string (⟨#[]⟩ : ByteArray)) := (blk_cell BK585.out 2).trans rfl
         have hcz19_3 : w11.cell? ⟨gb585, 3, none⟩ = some (.bool false) := (blk_cell BK585.out 3).trans rfl
         have hfz19_0 := blk_frozen BK585.out 0
         have hfz19_1 := blk_frozen BK585.out 1
         have hfz19_2 := blk_frozen BK585.out 2
         have hfz19_3 := blk_frozen BK585.out 3
         have p16 : 0 ≤ (0 : Int) := (by omega)
         have q16 : 0 < t581.size := (by have : (0 : Int) < (t581.size : Int) := of_decide_eq_true (by assumption); omega)
         have hx16 : ∀ h : 0 < t581.size, ((t581[0]'h).toNat : Int) = bt t581 0 := bt_at t581 0
         clear p16
         have qi16 : (0 < (t581.size : Int)) = True := eq_true (of_decide_eq_true (by assumption))
         replace q16 := eq_true q16
         go_wp2
         go_meet
         case rel => exact ⟨_, (true), (by first | rfl | (simp; done) | (simp [*]; done) | (simp [ne_nil_B, eq_nil_B]; done)), H', ⟨by first | omega | exact Nat.le_refl _⟩, ⟨by (with_reducible repeat (first | refine blk_drewN ?_ _ | refine blk_drew ?_ | refine blk_alloc ?_ _)); refine blk_put (cs := #[.string t580, .string t581, .string t582, .bool false]) ?_ 3 _ rfl; (with_reducible repeat (first | refine blk_drewN ?_ _ | refine blk_drew ?_ | refine blk_alloc ?_ _)); refine blk_put (cs := #[.string t580, .string t581, .string (⟨#[]⟩ : ByteArray), .bool false]) ?_ 2 _ rfl; (with_reducible repeat (first | refine blk_drewN ?_ _ | refine blk_drew ?_ | refine blk_alloc ?_ _)); refine blk_put (cs := #[.string t580, .string (⟨#[]⟩ : ByteArray), .string (⟨#[]⟩ : ByteArray), .bool false]) ?_ 1 _ rfl; (with_reducible repeat (first | refine blk_drewN ?_ _ | refine blk_drew ?_ | refine blk_alloc ?_ _)); refine blk_put (cs := #[.string (⟨#[]⟩ : ByteArray), .string (⟨#[]⟩ : ByteArray), .string (⟨#[]⟩ : ByteArray), .bool false]) ?_ 0 _ rfl; (with_reducible repeat (first | refine blk_drewN ?_ _ | refine blk_drew ?_ | refine blk_alloc ?_ _)); exact BK585.out⟩, ⟨by repeat (first | (with_reducible first | exact HB.out | apply below_alloc | apply pw_below_drewN | apply below_drew1 | refine below_set ?_ GE585.out) | exact HB.out)⟩⟩
        ·rw [if_neg c18] at H
         have c18b0 : decide (512 < (t581.size : Int)) = false := decide_eq_false c18
         have c18b1 : decide (512 < t581.size) = false := decide_eq_false (by omega)
         clear c18
         by_cases c20 : t583 = true
         ·subst c20
          have H1 : (pantrylaw08_PlacePlain.j0 k false t580 t581 t582 true) = some r := by rw [if_pos rfl] at H; exact H
          clear H
          have H := H1
          clear H1
          have H' := Aside0.mk H
          clear H
          have hcz21_0 : w11.cell? ⟨gb585, 0, none⟩ = some (.string (⟨#[]⟩ : ByteArray)) := (blk_cell BK585.out 0).trans rfl
          have hcz21_1 : w11.cell? ⟨gb585, 1, none⟩ = some (.string (⟨#[]⟩ : ByteArray)) := (blk_cell BK585.out 1).trans rfl
          have hcz21_2 : w11.cell? ⟨gb585, 2, none⟩ = some (.string (⟨#[]⟩ : ByteArray)) := (blk_cell BK585.out 2).trans rfl
          have hcz21_3 : w11.cell? ⟨gb585, 3, none⟩ = some (.bool false) := (blk_cell BK585.out 3).trans rfl
          have hfz21_0 := blk_frozen BK585.out 0
          have hfz21_1 := blk_frozen BK585.out 1
          have hfz21_2 := blk_frozen BK585.out 2
          have hfz21_3 := blk_frozen BK585.out 3
          have p16 : 0 ≤ (0 : Int) := (by omega)
          have q16 : 0 < t581.size := (by have : (0 : Int) < (t581.size : Int) := of_decide_eq_true (by assumption); omega)
          have hx16 : ∀ h : 0 < t581.size, ((t581[0]'h).toNat : Int) = bt t581 0 := bt_at t581 0
          clear p16
          have qi16 : (0 < (t581.size : Int)) = True := eq_true (of_decide_eq_true (by assumption))
          replace q16 := eq_true q16
          go_wp2
          go_meet
          case rel => exact ⟨_, (false), (by first | rfl | (simp; done) | (simp [*]; done) | (simp [ne_nil_B, eq_nil_B]; done)), H', ⟨by first | omega | exact Nat.le_refl _⟩, ⟨by (with_reducible repeat (first | refine blk_drewN ?_ _ | refine blk_drew ?_ | refine blk_alloc ?_ _)); refine blk_put (cs := #[.string t580, .string t581, .string t582, .bool false]) ?_ 3 _ rfl; (with_reducible repeat (first | refine blk_drewN ?_ _ | refine blk_drew ?_ | refine blk_alloc ?_ _)); refine blk_put (cs := #[.string t580, .string t581, .string (⟨#[]⟩ : ByteArray), .bool false]) ?_ 2 _ rfl; (with_reducible repeat (first | refine blk_drewN ?_ _ | refine blk_drew ?_ | refine blk_alloc ?_ _)); refine blk_put (cs := #[.string t580, .string (⟨#[]⟩ : ByteArray), .string (⟨#[]⟩ : ByteArray), .bool false]) ?_ 1 _ rfl; (with_reducible repeat (first | refine blk_drewN ?_ _ | refine blk_drew ?_ | refine blk_alloc ?_ _)); refine blk_put (cs := #[.string (⟨#[]⟩ : ByteArray), .string (⟨#[]⟩ : ByteArray), .string (⟨#[]⟩ : ByteArray), .bool false]) ?_ 0 _ rfl; (with_reducible repeat (first | refine blk_drewN ?_ _ | refine blk_drew ?_ | refine blk_alloc ?_ _)); exact BK585.out⟩, ⟨by repeat (first | (with_reducible first | exact HB.out | apply below_alloc | apply pw_below_drewN | apply below_drew1 | refine below_set ?_ GE585.out) | exact HB.out)⟩⟩
         ·replace c20 := Bool.eq_false_iff.mpr c20
          subst c20
          have H1 : (pantrylaw08_PlacePlain.j0 k (t582.toList != ([] : List UInt8)) t580 t581 t582 false) = some r := by rw [if_neg (show ¬ (false = true) by decide)] at H; exact H
          clear H
          have H := H1
          clear H1
          have H' := Aside0.mk H
          clear H
          have hcz22_0 : w11.cell? ⟨gb585, 0, none⟩ = some (.string (⟨#[]⟩ : ByteArray)) := (blk_cell BK585.out 0).trans rfl
          have hcz22_1 : w11.cell? ⟨gb585, 1, none⟩ = some (.string (⟨#[]⟩ : ByteArray)) := (blk_cell BK585.out 1).trans rfl
          have hcz22_2 : w11.cell? ⟨gb585, 2, none⟩ = some (.string (⟨#[]⟩ : ByteArray)) := (blk_cell BK585.out 2).trans rfl
          have hcz22_3 : w11.cell? ⟨gb585, 3, none⟩ = some (.bool false) := (blk_cell BK585.out 3).trans rfl
          have hfz22_0 := blk_frozen BK585.out 0
          have hfz22_1 := blk_frozen BK585.out 1
          have hfz22_2 := blk_frozen BK585.out 2
          have hfz22_3 := blk_frozen BK585.out 3
          have p16 : 0 ≤ (0 : Int) := (by omega)
          have q16 : 0 < t581.size := (by have : (0 : Int) < (t581.size : Int) := of_decide_eq_true (by assumption); omega)
          have hx16 : ∀ h : 0 < t581.size, ((t581[0]'h).toNat : Int) = bt t581 0 := bt_at t581 0
          clear p16
          have qi16 : (0 < (t581.size : Int)) = True := eq_true (of_decide_eq_true (by assumption))
          replace q16 := eq_true q16
          go_wp2
          go_meet
          case rel => exact ⟨_, ((t582.toList != ([] : List UInt8))), (by first | rfl | (simp; done) | (simp [*]; done) | (simp [ne_nil_B, eq_nil_B]; done)), H', ⟨by first | omega | exact Nat.le_refl _⟩, ⟨by (with_reducible repeat (first | refine blk_drewN ?_ _ | refine blk_drew ?_ | refine blk_alloc ?_ _)); refine blk_put (cs := #[.string t580, .string t581, .string t582, .bool false]) ?_ 3 _ rfl; (with_reducible repeat (first | refine blk_drewN ?_ _ | refine blk_drew ?_ | refine blk_alloc ?_ _)); refine blk_put (cs := #[.string t580, .string t581, .string (⟨#[]⟩ : ByteArray), .bool false]) ?_ 2 _ rfl; (with_reducible repeat (first | refine blk_drewN ?_ _ | refine blk_drew ?_ | refine blk_alloc ?_ _)); refine blk_put (cs := #[.string t580, .string (⟨#[]⟩ : ByteArray), .string (⟨#[]⟩ : ByteArray), .bool false]) ?_ 1 _ rfl; (with_reducible repeat (first | refine blk_drewN ?_ _ | refine blk_drew ?_ | refine blk_alloc ?_ _)); refine blk_put (cs := #[.string (⟨#[]⟩ : ByteArray), .string (⟨#[]⟩ : ByteArray), .string (⟨#[]⟩ : ByteArray), .bool false]) ?_ 0 _ rfl; (with_reducible repeat (first | refine blk_drewN ?_ _ | refine blk_drew ?_ | refine blk_alloc ?_ _)); exact BK585.out⟩, ⟨by repeat (first | (with_reducible first | exact HB.out | apply below_alloc | apply pw_below_drewN | apply below_drew1 | refine below_set ?_ GE585.out) | exact HB.out)⟩⟩
       ·rw [if_neg c17] at H
        have c17b0 : ((bt t581 0) == 47) = false := beq_eq_false_iff_ne.mpr c17
        have c17b1 : ((bt t581 0) != 47) = true := bne_iff_ne.mpr c17
        have H' := Aside0.mk H
        clear H
        have hcz23_0 : w11.cell? ⟨gb585, 0, none⟩ = some (.string (⟨#[]⟩ : ByteArray)) := (blk_cell BK585.out 0).trans rfl
        have hcz23_1 : w11.cell? ⟨gb585, 1, none⟩ = some (.string (⟨#[]⟩ : ByteArray)) := (blk_cell BK585.out 1).trans rfl
        have hcz23_2 : w11.cell? ⟨gb585, 2, none⟩ = some (.string (⟨#[]⟩ : ByteArray)) := (blk_cell BK585.out 2).trans rfl
        have hcz23_3 : w11.cell? ⟨gb585, 3, none⟩ = some (.bool false) := (blk_cell BK585.out 3).trans rfl
        have hfz23_0 := blk_frozen BK585.out 0
        have hfz23_1 := blk_frozen BK585.out 1
        have hfz23_2 := blk_frozen BK585.out 2
        have hfz23_3 := blk_frozen BK585.out 3
        have p16 : 0 ≤ (0 : Int) := (by omega)
        have q16 : 0 < t581.size := (by have : (0 : Int) < (t581.size : Int) := of_decide_eq_true (by assumption); omega)
        have hx16 : ∀ h : 0 < t581.size, ((t581[0]'h).toNat : Int) = bt t581 0 := bt_at t581 0
        clear p16
        have qi16 : (0 < (t581.size : Int)) = True := eq_true (of_decide_eq_true (by assumption))
        replace q16 := eq_true q16
        go_wp2
        go_meet
        case rel => exact ⟨_, (true), (by first | rfl | (simp; done) | (simp [*]; done) | (simp [ne_nil_B, eq_nil_B]; done)), H', ⟨by first | omega | exact Nat.le_refl _⟩, ⟨by (with_reducible repeat (first | refine blk_drewN ?_ _ | refine blk_drew ?_ | refine blk_alloc ?_ _)); refine blk_put (cs := #[.string t580, .string t581, .string t582, .bool false]) ?_ 3 _ rfl; (with_reducible repeat (first | refine blk_drewN ?_ _ | refine blk_drew ?_ | refine blk_alloc ?_ _)); refine blk_put (cs := #[.string t580, .string t581, .string (⟨#[]⟩ : ByteArray), .bool false]) ?_ 2 _ rfl; (with_reducible repeat (first | refine blk_drewN ?_ _ | refine blk_drew ?_ | refine blk_alloc ?_ _)); refine blk_put (cs := #[.string t580, .string (⟨#[]⟩ : ByteArray), .string (⟨#[]⟩ : ByteArray), .bool false]) ?_ 1 _ rfl; (with_reducible repeat (first | refine blk_drewN ?_ _ | refine blk_drew ?_ | refine blk_alloc ?_ _)); refine blk_put (cs := #[.string (⟨#[]⟩ : ByteArray), .string (⟨#[]⟩ : ByteArray), .string (⟨#[]⟩ : ByteArray), .bool false]) ?_ 0 _ rfl; (with_reducible repeat (first | refine blk_drewN ?_ _ | refine blk_drew ?_ | refine blk_alloc ?_ _)); exact BK585.out⟩, ⟨by repeat (first | (with_reducible first | exact HB.out | apply below_alloc | apply pw_below_drewN | apply below_drew1 | refine below_set ?_ GE585.out) | exact HB.out)⟩⟩
      ·rw [if_neg c15] at H
       exact absurd H (by simp)
    case rest =>
     clear HC8
     (try clear c1); (try clear p1); (try clear q1); (try clear hx1); (try clear qi1); (try clear c2); (try clear p2); (try clear c3); (try clear c4); (try clear c4b0); (try clear c4b1); (try clear c7); (try clear c7b0); (try clear c7b1); (try clear c10); (try clear c11); (try clear c13); (try clear c13b0); (try clear c13b1); (try clear c15); (try clear c15b0); (try clear c15b1); (try clear p16); (try clear q16); (try clear hx16); (try clear qi16); (try clear c17); (try clear c17b0); (try clear c17b1); (try clear c18); (try clear c18b0); (try clear c18b1); (try clear c20); (try clear hcz12_0); (try clear hcz12_1); (try clear hcz12_2); (try clear hcz12_3); (try clear hcz14_0); (try clear hcz14_1); (try clear hcz14_2); (try clear hcz14_3); (try clear hcz19_0); (try clear hcz19_1); (try clear hcz19_2); (try clear hcz19_3); (try clear hcz21_0); (try clear hcz21_1); (try clear hcz21_2); (try clear hcz21_3); (try clear hcz22_0); (try clear hcz22_1); (try clear hcz22_2); (try clear hcz22_3); (try clear hcz23_0); (try clear hcz23_1); (try clear hcz23_2); (try clear hcz23_3); (try clear hfz12_0); (try clear hfz12_1); (try clear hfz12_2); (try clear hfz12_3); (try clear hfz14_0); (try clear hfz14_1); (try clear hfz14_2); (try clear hfz14_3); (try clear hfz19_0); (try clear hfz19_1); (try clear hfz19_2); (try clear hfz19_3); (try clear hfz21_0); (try clear hfz21_1); (try clear hfz21_2); (try clear hfz21_3); (try clear hfz22_0); (try clear hfz22_1); (try clear hfz22_2); (try clear hfz22_3); (try clear hfz23_0); (try clear hfz23_1); (try clear hfz23_2); (try clear hfz23_3); (try clear p16); (try clear q16)
     obtain ⟨kq, x46_7, rfl, HA, HJ7, BK585, HB⟩ := hcut
     cases kq with
     | zero => exact absurd HA.out (by simp [pantrylaw08_PlacePlain.j0])
     | succ kj7 =>
      have H := HA.out
      clear HA
      simp only [pantrylaw08_PlacePlain.j0] at H
      by_cases c24 : x46_7 = true
      ·subst c24
       have H1 : (some false) = some r := by rw [if_pos rfl] at H; exact H
       clear H
       have H := H1
       clear H1
       obtain rfl := Option.some.inj H
       go_wp2
       go_ret
       exact ⟨by first | rfl | (simp <;> rfl) | (simp [*] <;> rfl) | (simp [ne_nil_B, eq_nil_B]; done) | (simp [ne_nil_B, eq_nil_B] <;> rfl), by repeat (first | (with_reducible first | exact HB.out | apply below_alloc | apply pw_below_drewN | apply below_drew1 | refine below_set ?_ GE585.out) | exact HB.out)⟩
      ·replace c24 := Bool.eq_false_iff.mpr c24
       subst c24
       have H1 : (pantrylaw08_PlacePlain.l0 kj7 1 1 t580 t581 t582 t583) = some r := by rw [if_neg (show ¬ (false = true) by decide)] at H; exact H
       clear H
       have H := H1
       clear H1
       have H' := Aside0.mk H
       clear H
       go_wp2
       go_loopg [5, 6] kj7 (fun kq v5 v6 w' => ∃ (x5_2 : Int) (x6_2 : Int), v5 = .int .i64 x5_2 ∧ v6 = .int .i64 x6_2 ∧ Aside0 (pantrylaw08_PlacePlain.l0 kq x5_2 x6_2 t580 t581 t582 t583 = some r) ∧ Aside0 (kq ≤ kj7) ∧ Aside0 (w'.heap[gb585]? = some (.cells #[.string t580, .string t581, .string t582, .bool t583] 24 (0, 0))) ∧ Aside0 (Below w.heap.size w w'))
       case atStart => exact ⟨(1), (1), (by first | rfl | (simp; done) | (simp [*]; done) | (simp [ne_nil_B, eq_nil_B]; done)), (by first | rfl | (simp; done) | (simp [*]; done) | (simp [ne_nil_B, eq_nil_B]; done)), H', ⟨Nat.le_refl _⟩, ⟨by (with_reducible repeat (first | refine blk_drewN ?_ _ | refine blk_drew ?_ | refine blk_alloc ?_ _)); exact BK585.out⟩, ⟨by repeat (first | (with_reducible first | exact HB.out | apply below_alloc | apply pw_below_drewN | apply below_drew1 | refine below_set ?_ GE585.out) | exact HB.out)⟩⟩
       case round =>
        clear H'
        (try clear c1); (try clear p1); (try clear q1); (try clear hx1); (try clear qi1); (try clear c2); (try clear p2); (try clear c3); (try clear c4); (try clear c4b0); (try clear c4b1); (try clear c7); (try clear c7b0); (try clear c7b1); (try clear c10); (try clear c11); (try clear c13); (try clear c13b0); (try clear c13b1); (try clear c15); (try clear c15b0); (try clear c15b1); (try clear p16); (try clear q16); (try clear hx16); (try clear qi16); (try clear c17); (try clear c17b0); (try clear c17b1); (try clear c18); (try clear c18b0); (try clear c18b1); (try clear c20); (try clear c24); (try clear hcz12_0); (try clear hcz12_1); (try clear hcz12_2); (try clear hcz12_3); (try clear hcz14_0); (try clear hcz14_1); (try clear hcz14_2); (try clear hcz14_3); (try clear hcz19_0); (try clear hcz19_1); (try clear hcz19_2); (try clear hcz19_3); (try clear hcz21_0); (try clear hcz21_1); (try clear hcz21_2); (try clear hcz21_3); (try clear hcz22_0); (try clear hcz22_1); (try clear hcz22_2); (try clear hcz22_3); (try clear hcz23_0); (try clear hcz23_1); (try clear hcz23_2); (try clear hcz23_3); (try clear hfz12_0); (try clear hfz12_1); (try clear hfz12_2); (try clear hfz12_3); (try clear hfz14_0); (try clear hfz14_1); (try clear hfz14_2); (try clear hfz14_3); (try clear hfz19_0); (try clear hfz19_1); (try clear hfz19_2); (try clear hfz19_3); (try clear hfz21_0); (try clear hfz21_1); (try clear hfz21_2); (try clear hfz21_3); (try clear hfz22_0); (try clear hfz22_1); (try clear hfz22_2); (try clear hfz22_3); (try clear hfz23_0); (try clear hfz23_1); (try clear hfz23_2); (try clear hfz23_3); (try clear p1); (try clear p16); (try clear p2); (try clear q1); (try clear q16)
        obtain ⟨x5_2, x6_2, rfl, rfl, HA, HK2, BK585, HB⟩ := hrel
        cases gk with
        | zero => exact absurd HA.out (by simp [pantrylaw08_PlacePlain.l0])
        | succ k2 =>
         have H := HA.out
         clear HA
         simp only [pantrylaw08_PlacePlain.l0] at H
         by_cases c25 : x6_2 ≤ (t581.size : Int)
         ·rw [if_pos c25] at H
          have c25b0 : decide (x6_2 ≤ (t581.size : Int)) = true := decide_eq_true c25
          clear c25
          have HC26 := Aside0.mk H
          clear H
          have hcz27_0 : wr.cell? ⟨gb585, 0, none⟩ = some (.string t580) := (blk_cell BK585.out 0).trans rfl
          have hcz27_1 : wr.cell? ⟨gb585, 1, none⟩ = some (.string t581) := (blk_cell BK585.out 1).trans rfl
          have hcz27_2 : wr.cell? ⟨gb585, 2, none⟩ = some (.string t582) := (blk_cell BK585.out 2).trans rfl
          have hcz27_3 : wr.cell? ⟨gb585, 3, none⟩ = some (.bool t583) := (blk_cell BK585.out 3).trans rfl
          have hfz27_0 := blk_frozen BK585.out 0
          have hfz27_1 := blk_frozen BK585.out 1
          have hfz27_2 := blk_frozen BK585.out 2
          have hfz27_3 := blk_frozen BK585.out 3
          go_upto_region 14 with (fail)
          go_cut [65] (fun v65 wc => ∃ (kq : Nat) (x65_25 : Bool), v65 = .bool x65_25 ∧ Aside0 (pantrylaw08_PlacePlain.j2 kq x5_2 x6_2 x65_25 t580 t581 t582 t583 = some r) ∧ Aside0 (kq ≤ k2) ∧ Aside0 (wc.heap[gb585]? = some (.cells #[.string t580, .string t581, .string t582, .bool t583] 24 (0, 0))) ∧ Aside0 (Below w.heap.size w wc))
          case first =>
           have H := HC26.out
           clear HC26
           by_cases c28 : x6_2 = (t581.size : Int)
           ·rw [if_pos c28] at H
            have c28b0 : (x6_2 == (t581.size : Int)) = true := beq_iff_eq.mpr c28
            have c28b1 : (x6_2 != (t581.size : Int)) = false := bne_eq_false_iff_eq.mpr c28
            clear c28
            (first | rw [c28b0] | (simp only [i64_w, i32_w]; rw [c28b0]) | skip)
            have H' := Aside0.mk H
            clear H
            have hcz29_0 : wr.cell? ⟨gb585, 0, none⟩ = some (.string t580) := (blk_cell BK585.out 0).trans rfl
            have hcz29_1 : wr.cell? ⟨gb585, 1, none⟩ = some (.string t581) := (blk_cell BK585.out 1).trans rfl
            have hcz29_2 : wr.cell? ⟨gb585, 2, none⟩ = some (.string t582) := (blk_cell BK585.out 2).trans rfl
            have hcz29_3 : wr.cell? ⟨gb585, 3, none⟩ = some (.bool t583) := (blk_cell BK585.out 3).trans rfl
            have hfz29_0 := blk_frozen BK585.out 0
            have hfz29_1 := blk_frozen BK585.out 1
            have hfz29_2 := blk_frozen BK585.out 2
            have hfz29_3 := blk_frozen BK585.out 3
            go_wp2
            go_meet
            case rel => exact ⟨_, (true), (by first | rfl | (simp; done) | (simp [*]; done) | (simp [ne_nil_B, eq_nil_B]; done)), H', ⟨by have := HJ7.out; have := HK2.out; first | omega | exact Nat.le_refl _⟩, ⟨by (with_reducible repeat (first | refine blk_drewN ?_ _ | refine blk_drew ?_ | refine blk_alloc ?_ _)); exact BK585.out⟩, ⟨by repeat (first | (with_reducible first | exact HB.out | apply below_alloc | apply pw_below_drewN | apply below_drew1 | refine below_set ?_ GE585.out) | exact HB.out)⟩⟩
           ·rw [if_neg c28] at H
            have c28b0 : (x6_2 == (t581.size : Int)) = false := beq_eq_false_iff_ne.mpr c28
            have c28b1 : (x6_2 != (t581.size : Int)) = true := bne_iff_ne.mpr c28
            (first | rw [c28b0] | (simp only [i64_w, i32_w]; rw [c28b0]) | skip)
            by_cases c30 : 0 ≤ x6_2
            ·rw [if_pos c30] at H
             have c30b0 : decide (0 ≤ x6_2) = true := decide_eq_true c30
             clear c30
             by_cases c31 : x6_2 < (t581.size : Int)
             ·rw [if_pos c31] at H
              have c31b0 : decide (x6_2 < (t581.size : Int)) = true := decide_eq_true c31
              clear c31
              have H' := Aside0.mk H
              clear H
              have hcz33_0 : wr.cell? ⟨gb585, 0, none⟩ = some (.string t580) := (blk_cell BK585.out 0).trans rfl
              have hcz33_1 : wr.cell? ⟨gb585, 1, none⟩ = some (.string t581) := (blk_cell BK585.out 1).trans rfl
              have hcz33_2 : wr.cell? ⟨gb585, 2, none⟩ = some (.string t582) := (blk_cell BK585.out 2).trans rfl
              have hcz33_3 : wr.cell? ⟨gb585, 3, none⟩ = some (.bool t583) := (blk_cell BK585.out 3).trans rfl
              have hfz33_0 := blk_frozen BK585.out 0
              have hfz33_1 := blk_frozen BK585.out 1
              have hfz33_2 := blk_frozen BK585.out 2
              have hfz33_3 := blk_frozen BK585.out 3
              have p32 : 0 ≤ (x6_2 : Int) := of_decide_eq_true (by assumption)
              have q32 : x6_2 < (t581.size : Int) := of_decide_eq_true (by assumption)
              have hx32 := bt_at t581 x6_2
              replace p32 := eq_true p32
              replace q32 := eq_true q32
              go_wp2
              go_meet
              case rel => exact ⟨_, (((bt t581 x6_2) == 47)), (by first | rfl | (simp; done) | (simp [*]; done) | (simp [ne_nil_B, eq_nil_B]; done)), H', ⟨by have := HJ7.out; have := HK2.out; first | omega | exact Nat.le_refl _⟩, ⟨by (with_reducible repeat (first | refine blk_drewN ?_ _ | refine blk_drew ?_ | refine blk_alloc ?_ _)); exact BK585.out⟩, ⟨by repeat (first | (with_reducible first | exact HB.out | apply below_alloc | apply pw_below_drewN | apply below_drew1 | refine below_set ?_ GE585.out) | exact HB.out)⟩⟩
             ·rw [if_neg c31] at H
              exact absurd H (by simp)
            ·rw [if_neg c30] at H
             exact absurd H (by simp)
          case rest =>
           clear HC26
           (try clear c1); (try clear p1); (try clear q1); (try clear hx1); (try clear qi1); (try clear c2); (try clear p2); (try clear c3); (try clear p3); (try clear q3); (try clear hx3); (try clear c4); (try clear c4b0); (try clear c4b1); (try clear c7); (try clear c7b0); (try clear c7b1); (try clear c10); (try clear c11); (try clear c13); (try clear c13b0); (try clear c13b1); (try clear c15); (try clear c15b0); (try clear c15b1); (try clear p16); (try clear q16); (try clear hx16); (try clear qi16); (try clear c17); (try clear c17b0); (try clear c17b1); (try clear c18); (try clear c18b0); (try clear c18b1); (try clear c20); (try clear c24); (try clear c25); (try clear c25b0); (try clear c28); (try clear c28b0); (try clear c28b1); (try clear c30); (try clear c30b0); (try clear c31); (try clear c31b0); (try clear p32); (try clear q32); (try clear hx32); (try clear hcz12_0); (try clear hcz12_1); (try clear hcz12_2); (try clear hcz12_3); (try clear hcz14_0); (try clear hcz14_1); (try clear hcz14_2); (try clear hcz14_3); (try clear hcz19_0); (try clear hcz19_1); (try clear hcz19_2); (try clear hcz19_3); (try clear hcz21_0); (try clear hcz21_1); (try clear hcz21_2); (try clear hcz21_3); (try clear hcz22_0); (try clear hcz22_1); (try clear hcz22_2); (try clear hcz22_3); (try clear hcz23_0); (try clear hcz23_1); (try clear hcz23_2); (try clear hcz23_3); (try clear hcz27_0); (try clear hcz27_1); (try clear hcz27_2); (try clear hcz27_3); (try clear hcz29_0); (try clear hcz29_1); (try clear hcz29_2); (try clear hcz29_3); (try clear hcz33_0); (try clear hcz33_1); (try clear hcz33_2); (try clear hcz33_3); (try clear hfz12_0); (try clear hfz12_1); (try clear hfz12_2); (try clear hfz12_3); (try clear hfz14_0); (try clear hfz14_1); (try clear hfz14_2); (try clear hfz14_3); (try clear hfz19_0); (try clear hfz19_1); (try clear hfz19_2); (try clear hfz19_3); (try clear hfz21_0); (try clear hfz21_1); (try clear hfz21_2); (try clear hfz21_3); (try clear hfz22_0); (try clear hfz22_1); (try clear hfz22_2); (try clear hfz22_3); (try clear hfz23_0); (try clear hfz23_1); (try clear hfz23_2); (try clear hfz23_3); (try clear hfz27_0); (try clear hfz27_1); (try clear hfz27_2); (try clear hfz27_3); (try clear hfz29_0); (try clear hfz29_1); (try clear hfz29_2); (try clear hfz29_3); (try clear hfz33_0); (try clear hfz33_1); (try clear hfz33_2); (try clear hfz33_3); (try clear p1); (try clear p16); (try clear p2); (try clear p32); (try clear q1); (try clear q16); (try clear q32)
           obtain ⟨kq, x65_25, rfl, HA, HJ25, BK585, HB⟩ := hcut
           cases kq with
           | zero => exact absurd HA.out (by simp [pantrylaw08_PlacePlain.j2])
           | succ kj25 =>
            have H := HA.out
            clear HA
            simp only [pantrylaw08_PlacePlain.j2] at H
            by_cases c34 : x65_25 = true
            ·subst c34
             have H1 : (if 0 ≤ x5_2 then (if x5_2 ≤ x6_2 then (if x6_2 ≤ (t581.size : Int) then (if (t581.extract (x5_2 : Int).toNat (x6_2 : Int).toNat).toList = ([46] : List UInt8) then (some false) else (if (t581.extract (x5_2 : Int).toNat (x6_2 : Int).toNat).toList = ([46, 46] : List UInt8) then (some false) else (pantrylaw08_PlacePlain.l0 kj25 (wrap64 (x6_2 + 1)) (wrap64 (x6_2 + 1)) t580 t581 t582 t583))) else (none)) else (none)) else (none)) = some r := by rw [if_pos rfl] at H; exact H
             clear H
             have H := H1
             clear H1
             by_cases c35 : 0 ≤ x5_2
             ·rw [if_pos c35] at H
              have c35b0 := eq_true c35
              have c35b1 : decide (0 ≤ x5_2) = true := decide_eq_true c35
              clear c35
              by_cases c36 : x5_2 ≤ x6_2
              ·rw [if_pos c36] at H
               have c36b0 := eq_true c36
               have c36b1 : decide (x5_2 ≤ x6_2) = true := decide_eq_true c36
               clear c36
               by_cases c37 : x6_2 ≤ (t581.size : Int)
               ·rw [if_pos c37] at H
                have c37b0 := eq_true c37
                have c37b1 : decide (x6_2 ≤ (t581.size : Int)) = true := decide_eq_true c37
                clear c37
                by_cases c38 : (t581.extract (x5_2 : Int).toNat (x6_2 : Int).toNat).toList = ([46] : List UInt8)
                ·rw [if_pos c38] at H
                 have c38b0 : ((t581.extract (x5_2 : Int).toNat (x6_2 : Int).toNat).toList == ([46] : List UInt8)) = true := beq_iff_eq.mpr c38
                 have c38b1 : ((t581.extract (x5_2 : Int).toNat (x6_2 : Int).toNat).toList != ([46] : List UInt8)) = false := bne_eq_false_iff_eq.mpr c38
                 clear c38
                 obtain rfl := Option.some.inj H
                 have hcz39_0 : wc.cell? ⟨gb585, 0, none⟩ = some (.string t580) := (blk_cell BK585.out 0).trans rfl
                 have hcz39_1 : wc.cell? ⟨gb585, 1, none⟩ = some (.string t581) := (blk_cell BK585.out 1).trans rfl
                 have hcz39_2 : wc.cell? ⟨gb585, 2, none⟩ = some (.string t582) := (blk_cell BK585.out 2).trans rfl
                 have hcz39_3 : wc.cell? ⟨gb585, 3, none⟩ = some (.bool t583) := (blk_cell BK585.out 3).trans rfl
                 have hfz39_0 := blk_frozen BK585.out 0
                 have hfz39_1 := blk_frozen BK585.out 1
                 have hfz39_2 := blk_frozen BK585.out 2
                 have hfz39_3 := blk_frozen BK585.out 3
                 go_wp2
                 go_ret
                 exact ⟨by first | rfl | (simp <;> rfl) | (simp [*] <;> rfl) | (simp [ne_nil_B, eq_nil_B]; done) | (simp [ne_nil_B, eq_nil_B] <;> rfl), by repeat (first | (with_reducible first | exact HB.out | apply below_alloc | apply pw_below_drewN | apply below_drew1 | refine below_set ?_ GE585.out) | exact HB.out)⟩
                ·rw [if_neg c38] at H
                 have c38b0 : ((t581.extract (x5_2 : Int).toNat (x6_2 : Int).toNat).toList == ([46] : List UInt8)) = false := beq_eq_false_iff_ne.mpr c38
                 have c38b1 : ((t581.extract (x5_2 : Int).toNat (x6_2 : Int).toNat).toList != ([46] : List UInt8)) = true := bne_iff_ne.mpr c38
                 by_cases c40 : (t581.extract (x5_2 : Int).toNat (x6_2 : Int).toNat).toList = ([46, 46] : List UInt8)
                 ·rw [if_pos c40] at H
                  have c40b0 : ((t581.extract (x5_2 : Int).toNat (x6_2 : Int).toNat).toList == ([46, 46] : List UInt8)) = true := beq_iff_eq.mpr c40
                  have c40b1 : ((t581.extract (x5_2 : Int).toNat (x6_2 : Int).toNat).toList != ([46, 46] : List UInt8)) = false := bne_eq_false_iff_eq.mpr c40
                  clear c40
                  obtain rfl := Option.some.inj H
                  have hcz41_0 : wc.cell? ⟨gb585, 0, none⟩ = some (.string t580) := (blk_cell BK585.out 0).trans rfl
                  have hcz41_1 : wc.cell? ⟨gb585, 1, none⟩ = some (.string t581) := (blk_cell BK585.out 1).trans rfl
                  have hcz41_2 : wc.cell? ⟨gb585, 2, none⟩ = some (.string t582) := (blk_cell BK585.out 2).trans rfl
                  have hcz41_3 : wc.cell? ⟨gb585, 3, none⟩ = some (.bool t583) := (blk_cell BK585.out 3).trans rfl
                  have hfz41_0 := blk_frozen BK585.out 0
                  have hfz41_1 := blk_frozen BK585.out 1
                  have hfz41_2 := blk_frozen BK585.out 2
                  have hfz41_3 := blk_frozen BK585.out 3
                  go_wp2
                  go_ret
                  exact ⟨by first | rfl | (simp <;> rfl) | (simp [*] <;> rfl) | (simp [ne_nil_B, eq_nil_B]; done) | (simp [ne_nil_B, eq_nil_B] <;> rfl), by repeat (first | (with_reducible first | exact HB.out | apply below_alloc | apply pw_below_drewN | apply below_drew1 | refine below_set ?_ GE585.out) | exact HB.out)⟩
                 ·rw [if_neg c40] at H
                  have c40b0 : ((t581.extract (x5_2 : Int).toNat (x6_2 : Int).toNat).toList == ([46, 46] : List UInt8)) = false := beq_eq_false_iff_ne.mpr c40
                  have c40b1 : ((t581.extract (x5_2 : Int).toNat (x6_2 : Int).toNat).toList != ([46, 46] : List UInt8)) = true := bne_iff_ne.mpr c40
                  have H' := Aside0.mk H
                  clear H
                  have hcz42_0 : wc.cell? ⟨gb585, 0, none⟩ = some (.string t580) := (blk_cell BK585.out 0).trans rfl
                  have hcz42_1 : wc.cell? ⟨gb585, 1, none⟩ = some (.string t581) := (blk_cell BK585.out 1).trans rfl
                  have hcz42_2 : wc.cell? ⟨gb585, 2, none⟩ = some (.string t582) := (blk_cell BK585.out 2).trans rfl
                  have hcz42_3 : wc.cell? ⟨gb585, 3, none⟩ = some (.bool t583) := (blk_cell BK585.out 3).trans rfl
                  have hfz42_0 := blk_frozen BK585.out 0
                  have hfz42_1 := blk_frozen BK585.out 1
                  have hfz42_2 := blk_frozen BK585.out 2
                  have hfz42_3 := blk_frozen BK585.out 3
                  go_wp2
                  go_roundg kj25
                  case measure => have := HJ7.out; have := HK2.out; have := HJ25.out; omega
                  case rel => exact ⟨(wrap64 (x6_2 + 1)), (wrap64 (x6_2 + 1)), (by first | rfl | (simp; done) | (simp [*]; done) | (simp [ne_nil_B, eq_nil_B]; done)), (by first | rfl | (simp; done) | (simp [*]; done) | (simp [ne_nil_B, eq_nil_B]; done)), H', ⟨by have := HJ7.out; have := HK2.out; have := HJ25.out; omega⟩, ⟨by (with_reducible repeat (first | refine blk_drewN ?_ _ | refine blk_drew ?_ | refine blk_alloc ?_ _)); exact BK585.out⟩, ⟨by repeat (first | (with_reducible first | exact HB.out | apply below_alloc | apply pw_below_drewN | apply below_drew1 | refine below_set ?_ GE585.out) | exact HB.out)⟩⟩
               ·rw [if_neg c37] at H
                exact absurd H (by simp)
              ·rw [if_neg c36] at H
               exact absurd H (by simp)
             ·rw [if_neg c35] at H
              exact absurd H (by simp)
            ·replace c34 := Bool.eq_false_iff.mpr c34
             subst c34
             have H1 : (pantrylaw08_PlacePlain.l0 kj25 x5_2 (wrap64 (x6_2 + 1)) t580 t581 t582 t583) = some r := by rw [if_neg (show ¬ (false = true) by decide)] at H; exact H
             clear H
             have H := H1
             clear H1
             have H' := Aside0.mk H
             clear H
             go_wp2
             go_roundg kj25
             case measure => have := HJ7.out; have := HK2.out; have := HJ25.out; omega
             case rel => exact ⟨(x5_2), (wrap64 (x6_2 + 1)), (by first | rfl | (simp; done) | (simp [*]; done) | (simp [ne_nil_B, eq_nil_B]; done)), (by first | rfl | (simp; done) | (simp [*]; done) | (simp [ne_nil_B, eq_nil_B]; done)), H', ⟨by have := HJ7.out; have := HK2.out; have := HJ25.out; omega⟩, ⟨by (with_reducible repeat (first | refine blk_drewN ?_ _ | refine blk_drew ?_ | refine blk_alloc ?_ _)); exact BK585.out⟩, ⟨by repeat (first | (with_reducible first | exact HB.out | apply below_alloc | apply pw_below_drewN | apply below_drew1 | refine below_set ?_ GE585.out) | exact HB.out)⟩⟩
         ·rw [if_neg c25] at H
          have c25b0 : decide (x6_2 ≤ (t581.size : Int)) = false := decide_eq_false c25
          clear c25
          replace H := Option.bind_eq_some_iff.mp H
          obtain ⟨⟨t586, t587, t588, t589, t590⟩, A430, H⟩ := H
          (try dsimp only at H)
          have A43 := Aside0.mk A430
          clear A430
          by_cases c44 : t590 = 0
          ·rw [if_pos c44] at H
           have c44b0 : (t590 == 0) = true := beq_iff_eq.mpr c44
           have c44b1 : (t590 != 0) = false := bne_eq_false_iff_eq.mpr c44
           clear c44
           obtain rfl := Option.some.inj H
           have hcz45_0 : wr.cell? ⟨gb585, 0, none⟩ = some (.string t580) := (blk_cell BK585.out 0).trans rfl
           have hcz45_1 : wr.cell? ⟨gb585, 1, none⟩ = some (.string t581) := (blk_cell BK585.out 1).trans rfl
           have hcz45_2 : wr.cell? ⟨gb585, 2, none⟩ = some (.string t582) := (blk_cell BK585.out 2).trans rfl
           have hcz45_3 : wr.cell? ⟨gb585, 3, none⟩ = some (.bool t583) := (blk_cell BK585.out 3).trans rfl
           have hfz45_0 := blk_frozen BK585.out 0
           have hfz45_1 := blk_frozen BK585.out 1
           have hfz45_2 := blk_frozen BK585.out 2
           have hfz45_3 := blk_frozen BK585.out 3
           go_wp2_with (first | ((with_reducible refine gate_callee (f := 11) rfl ?_); refine goesL_ (some 82) rfl rfl Tryd.func11 (by kernel_rfl) rfl #[.string t581, .string (⟨#[104]⟩ : ByteArray)] rfl (by (try simp only [List.map_toArray, List.map_cons, List.map_nil]); first | done | rfl | (simp only [List.length_drop, List.length_take]; rfl)) ?_; (with_reducible refine (place_Read.calls k2 t581 (⟨#[104]⟩ : ByteArray) t586 t587 t588 t589 t590 _ A43.out).mono ?_); rintro e w46 ⟨rfl, hb⟩; refine ⟨_, rfl, ?_⟩; have n0_ := Aside0.mk (blk_below (g := gb585) (o := .cells #[.string t580, .string t581, .string t582, .bool t583] 24 (0, 0)) (by (with_reducible repeat (first | refine blk_drewN ?_ _ | refine blk_drew ?_ | refine blk_alloc ?_ _)); exact BK585.out) hb); have n1_ := Aside0.mk (below_step (by repeat (first | (with_reducible first | exact HB.out | apply below_alloc | apply pw_below_drewN | apply below_drew1 | refine below_set ?_ GE585.out) | exact HB.out)) hb); clear BK585; clear HB; have BK585 := n0_; have HB := n1_; clear n0_ n1_; (try clear hb); (try clear hb2); (try clear hk); (try clear hi)) | ((with_reducible refine gate_dst (N := 8) rfl ?_); (try (refine gate_guard (by rfl) ?_; dsimp only)); refine box_event ?hg (N := 8) ?hd (cs := #[.string (⟨#[]⟩ : ByteArray), .string (⟨#[]⟩ : ByteArray), .string (⟨#[]⟩ : ByteArray), .bool false]) (t := 24) ?hr ?_; (case hd => rfl); (case hg => rfl); (case hr => first | (go_simp; done) | (go_simp; rfl)); intro gb591 hg w47 hbox hb; have n0_ := Aside0.mk (blk_below (g := gb585) (o := .cells #[.string t580, .string t581, .string t582, .bool t583] 24 (0, 0)) (by (with_reducible repeat (first | refine blk_drewN ?_ _ | refine blk_drew ?_ | refine blk_alloc ?_ _)); exact BK585.out) hb); have n1_ := Aside0.mk (below_step (by repeat (first | (with_reducible first | exact HB.out | apply below_alloc | apply pw_below_drewN | apply below_drew1 | refine below_set ?_ GE585.out) | exact HB.out)) hb); have n2_ := Aside0.mk (hbox); have n3_ := Aside0.mk ((by rw [hg]; exact (below_size (by repeat (first | (with_reducible first | exact HB.out | apply below_alloc | apply pw_below_drewN | apply below_drew1 | refine below_set ?_ GE585.out) | exact HB.out))) : w.heap.size ≤ gb591)); have n4_ := Aside0.mk ((by rw [hg]; exact (below_size (by repeat (first | (with_reducible first | exact HB.out | apply below_alloc | apply pw_below_drewN | apply below_drew1 | refine below_set ?_ GE585.out) | exact HB.out))) : w.heap.size ≤ gb591)); have n5_ := Aside0.mk ((by rw [hg]; exact Nat.ne_of_lt (blk_lt (g := gb585) (o := .cells #[.string t580, .string t581, .string t582, .bool t583] 24 (0, 0)) (by (with_reducible repeat (first | refine blk_drewN ?_ _ | refine blk_drew ?_ | refine blk_alloc ?_ _)); exact BK585.out)) : gb585 ≠ gb591)); have n6_ := Aside0.mk ((by rw [hg]; exact Nat.ne_of_gt (blk_lt (g := gb585) (o := .cells #[.string t580, .string t581, .string t582, .bool t583] 24 (0, 0)) (by (with_reducible repeat (first | refine blk_drewN ?_ _ | refine blk_drew ?_ | refine blk_alloc ?_ _)); exact BK585.out)) : gb591 ≠ gb585)); clear BK585; clear HB; have BK585 := n0_; have HB := n1_; have BK591 := n2_; have GW591 := n3_; have GE591 := n4_; have NB585_591 := n5_; have NB591_585 := n6_; clear n0_ n1_ n2_ n3_ n4_ n5_ n6_; clear hb hbox hg; have hnb48 := NB591_585.out; have hnc48 := NB585_591.out; have hcz49_0 : w47.cell? ⟨gb591, 0, none⟩ = some (.string (⟨#[]⟩ : ByteArray)) := (blk_cell BK591.out 0).trans rfl; have hcz49_1 : w47.cell? ⟨gb591, 1, none⟩ = some (.string (⟨#[]⟩ : ByteArray)) := (blk_cell BK591.out 1).trans rfl; have hcz49_2 : w47.cell? ⟨gb591, 2, none⟩ = some (.string (⟨#[]⟩ : ByteArray)) := (blk_cell BK591.out 2).trans rfl; have hcz49_3 : w47.cell? ⟨gb591, 3, none⟩ = some (.bool false) := (blk_cell BK591.out 3).trans rfl; have hfz49_0 := blk_frozen BK591.out 0; have hfz49_1 := blk_frozen BK591.out 1; have hfz49_2 := blk_frozen BK591.out 2; have hfz49_3 := blk_frozen BK591.out 3; have hcz50_0 : w47.cell? ⟨gb585, 0, none⟩ = some (.string t580) := (blk_cell BK585.out 0).trans rfl; have hcz50_1 : w47.cell? ⟨gb585, 1, none⟩ = some (.string t581) := (blk_cell BK585.out 1).trans rfl; have hcz50_2 : w47.cell? ⟨gb585, 2, none⟩ = some (.string t582) := (blk_cell BK585.out 2).trans rfl; have hcz50_3 : w47.cell? ⟨gb585, 3, none⟩ = some (.bool t583) := (blk_cell BK585.out 3).trans rfl; have hfz50_0 := blk_frozen BK585.out 0; have hfz50_1 := blk_frozen BK585.out 1; have hfz50_2 := blk_frozen BK585.out 2; have hfz50_3 := blk_frozen BK585.out 3))
           go_ret
           exact ⟨by first | rfl | (simp <;> rfl) | (simp [*] <;> rfl) | (simp [ne_nil_B, eq_nil_B]; done) | (simp [ne_nil_B, eq_nil_B] <;> rfl), by repeat (first | (with_reducible first | exact HB.out | apply below_alloc | apply pw_below_drewN | apply below_drew1 | refine below_set ?_ GE585.out | refine below_set ?_ GE591.out) | exact HB.out)⟩
          ·rw [if_neg c44] at H
           have c44b0 : (t590 == 0) = false := beq_eq_false_iff_ne.mpr c44
           have c44b1 : (t590 != 0) = true := bne_iff_ne.mpr c44
           obtain rfl := Option.some.inj H
           have hcz51_0 : wr.cell? ⟨gb585, 0, none⟩ = some (.string t580) := (blk_cell BK585.out 0).trans rfl
           have hcz51_1 : wr.cell? ⟨gb585, 1, none⟩ = some (.string t581) := (blk_cell BK585.out 1).trans rfl
           have hcz51_2 : wr.cell? ⟨gb585, 2, none⟩ = some (.string t582) := (blk_cell BK585.out 2).trans rfl
           have hcz51_3 : wr.cell? ⟨gb585, 3, none⟩ = some (.bool t583) := (blk_cell BK585.out 3).trans rfl
           have hfz51_0 := blk_frozen BK585.out 0
           have hfz51_1 := blk_frozen BK585.out 1
           have hfz51_2 := blk_frozen BK585.out 2
           have hfz51_3 := blk_frozen BK585.out 3
           go_wp2_with (first | ((with_reducible refine gate_callee (f := 11) rfl ?_); refine goesL_ (some 82) rfl rfl Tryd.func11 (by kernel_rfl) rfl #[.string t581, .string (⟨#[104]⟩ : ByteArray)] rfl (by (try simp only [List.map_toArray, List.map_cons, List.map_nil]); first | done | rfl | (simp only [List.length_drop, List.length_take]; rfl)) ?_; (with_reducible refine (place_Read.calls k2 t581 (⟨#[104]⟩ : ByteArray) t586 t587 t588 t589 t590 _ A43.out).mono ?_); rintro e w52 ⟨rfl, hb⟩; refine ⟨_, rfl, ?_⟩; have n0_ := Aside0.mk (blk_below (g := gb585) (o := .cells #[.string t580, .string t581, .string t582, .bool t583] 24 (0, 0)) (by (with_reducible repeat (first | refine blk_drewN ?_ _ | refine blk_drew ?_ | refine blk_alloc ?_ _)); exact BK585.out) hb); have n1_ := Aside0.mk (below_step (by repeat (first | (with_reducible first | exact HB.out | apply below_alloc | apply pw_below_drewN | apply below_drew1 | refine below_set ?_ GE585.out) | exact HB.out)) hb); clear BK585; clear HB; have BK585 := n0_; have HB := n1_; clear n0_ n1_; (try clear hb); (try clear hb2); (try clear hk); (try clear hi)) | ((with_reducible refine gate_dst (N := 8) rfl ?_); (try (refine gate_guard (by rfl) ?_; dsimp only)); refine box_event ?hg (N := 8) ?hd (cs := #[.string (⟨#[]⟩ : ByteArray), .string (⟨#[]⟩ : ByteArray), .string (⟨#[]⟩ : ByteArray), .bool false]) (t := 24) ?hr ?_; (case hd => rfl); (case hg => rfl); (case hr => first | (go_simp; done) | (go_simp; rfl)); intro gb591 hg w53 hbox hb; have n0_ := Aside0.mk (blk_below (g := gb585) (o := .cells #[.string t580, .string t581, .string t582, .bool t583] 24 (0, 0)) (by (with_reducible repeat (first | refine blk_drewN ?_ _ | refine blk_drew ?_ | refine blk_alloc ?_ _)); exact BK585.out) hb); have n1_ := Aside0.mk (below_step (by repeat (first | (with_reducible first | exact HB.out | apply below_alloc | apply pw_below_drewN | apply below_drew1 | refine below_set ?_ GE585.out) | exact HB.out)) hb); have n2_ := Aside0.mk (hbox); have n3_ := Aside0.mk ((by rw [hg]; exact (below_size (by repeat (first | (with_reducible first | exact HB.out | apply below_alloc | apply pw_below_drewN | apply below_drew1 | refine below_set ?_ GE585.out) | exact HB.out))) : w.heap.size ≤ gb591)); have n4_ := Aside0.mk ((by rw [hg]; exact (below_size (by repeat (first | (with_reducible first | exact HB.out | apply below_alloc | apply pw_below_drewN | apply below_drew1 | refine below_set ?_ GE585.out) | exact HB.out))) : w.heap.size ≤ gb591)); have n5_ := Aside0.mk ((by rw [hg]; exact Nat.ne_of_lt (blk_lt (g := gb585) (o := .cells #[.string t580, .string t581, .string t582, .bool t583] 24 (0, 0)) (by (with_reducible repeat (first | refine blk_drewN ?_ _ | refine blk_drew ?_ | refine blk_alloc ?_ _)); exact BK585.out)) : gb585 ≠ gb591)); have n6_ := Aside0.mk ((by rw [hg]; exact Nat.ne_of_gt (blk_lt (g := gb585) (o := .cells #[.string t580, .string t581, .string t582, .bool t583] 24 (0, 0)) (by (with_reducible repeat (first | refine blk_drewN ?_ _ | refine blk_drew ?_ | refine blk_alloc ?_ _)); exact BK585.out)) : gb591 ≠ gb585)); clear BK585; clear HB; have BK585 := n0_; have HB := n1_; have BK591 := n2_; have GW591 := n3_; have GE591 := n4_; have NB585_591 := n5_; have NB591_585 := n6_; clear n0_ n1_ n2_ n3_ n4_ n5_ n6_; clear hb hbox hg; have hnb54 := NB591_585.out; have hnc54 := NB585_591.out; have hcz55_0 : w53.cell? ⟨gb591, 0, none⟩ = some (.string (⟨#[]⟩ : ByteArray)) := (blk_cell BK591.out 0).trans rfl; have hcz55_1 : w53.cell? ⟨gb591, 1, none⟩ = some (.string (⟨#[]⟩ : ByteArray)) := (blk_cell BK591.out 1).trans rfl; have hcz55_2 : w53.cell? ⟨gb591, 2, none⟩ = some (.string (⟨#[]⟩ : ByteArray)) := (blk_cell BK591.out 2).trans rfl; have hcz55_3 : w53.cell? ⟨gb591, 3, none⟩ = some (.bool false) := (blk_cell BK591.out 3).trans rfl; have hfz55_0 := blk_frozen BK591.out 0; have hfz55_1 := blk_frozen BK591.out 1; have hfz55_2 := blk_frozen BK591.out 2; have hfz55_3 := blk_frozen BK591.out 3))
           go_ret
           exact ⟨by first | rfl | (simp <;> rfl) | (simp [*] <;> rfl) | (simp [ne_nil_B, eq_nil_B]; done) | (simp [ne_nil_B, eq_nil_B] <;> rfl), by repeat (first | (with_reducible first | exact HB.out | apply below_alloc | apply pw_below_drewN | apply below_drew1 | refine below_set ?_ GE585.out | refine below_set ?_ GE591.out) | exact HB.out)⟩
   ·rw [if_neg c7] at H
    have c7b0 : (t584 == 0) = false := beq_eq_false_iff_ne.mpr c7
    have c7b1 : (t584 != 0) = true := bne_iff_ne.mpr c7
    obtain rfl := Option.some.inj H
    go_enter Tryd.func7, Tryd.ntmps7
    go_wp2_with (first | ((with_reducible refine gate_callee (f := 10) rfl ?_); refine goesL_ (some 10) rfl rfl Tryd.func10 (by kernel_rfl) rfl #[] rfl (by (try simp only [List.map_toArray, List.map_cons, List.map_nil]); first | done | rfl | (simp only [List.length_drop, List.length_take]; rfl)) ?_; (with_reducible refine (pantrylaw08_anchor.calls k  true _ A2.out).mono ?_); rintro e w56 ⟨rfl, hb⟩; refine ⟨_, rfl, ?_⟩; have n0_ := Aside0.mk (below_step (by repeat (first | (with_reducible first | exact HB.out | apply below_alloc | apply pw_below_drewN | apply below_drew1) | exact HB.out)) hb); clear HB; have HB := n0_; clear n0_; (try clear hb); (try clear hb2); (try clear hk); (try clear hi)) | ((with_reducible refine gate_callee (f := 11) rfl ?_); refine goesL_ (some 17) rfl rfl Tryd.func11 (by kernel_rfl) rfl #[.string a0, .string (⟨#[104]⟩ : ByteArray)] rfl (by (try simp only [List.map_toArray, List.map_cons, List.map_nil]); first | done | rfl | (simp only [List.length_drop, List.length_take]; rfl)) ?_; (with_reducible refine (place_Read.calls k a0 (⟨#[104]⟩ : ByteArray) t580 t581 t582 t583 t584 _ A6.out).mono ?_); rintro e w57 ⟨rfl, hb⟩; refine ⟨_, rfl, ?_⟩; have n0_ := Aside0.mk (below_step (by repeat (first | (with_reducible first | exact HB.out | apply below_alloc | apply pw_below_drewN | apply below_drew1) | exact HB.out)) hb); clear HB; have HB := n0_; clear n0_; (try clear hb); (try clear hb2); (try clear hk); (try clear hi)) | ((with_reducible refine gate_dst (N := 3) rfl ?_); (try (refine gate_guard (by rfl) ?_; dsimp only)); refine box_event ?hg (N := 3) ?hd (cs := #[.string (⟨#[]⟩ : ByteArray), .string (⟨#[]⟩ : ByteArray), .string (⟨#[]⟩ : ByteArray), .bool false]) (t := 24) ?hr ?_; (case hd => rfl); (case hg => rfl); (case hr => first | (go_simp; done) | (go_simp; rfl)); intro gb585 hg w58 hbox hb; have n0_ := Aside0.mk (below_step (by repeat (first | (with_reducible first | exact HB.out | apply below_alloc | apply pw_below_drewN | apply below_drew1) | exact HB.out)) hb); have n1_ := Aside0.mk (hbox); have n2_ := Aside0.mk ((by rw [hg]; exact (below_size (by repeat (first | (with_reducible first | exact HB.out | apply below_alloc | apply pw_below_drewN | apply below_drew1) | exact HB.out))) : w.heap.size ≤ gb585)); have n3_ := Aside0.mk ((by rw [hg]; exact (below_size (by repeat (first | (with_reducible first | exact HB.out | apply below_alloc | apply pw_below_drewN | apply below_drew1) | exact HB.out))) : w.heap.size ≤ gb585)); clear HB; have HB := n0_; have BK585 := n1_; have GW585 := n2_; have GE585 := n3_; clear n0_ n1_ n2_ n3_; clear hb hbox hg; have hcz59_0 : w58.cell? ⟨gb585, 0, none⟩ = some (.string (⟨#[]⟩ : ByteArray)) := (blk_cell BK585.out 0).trans rfl; have hcz59_1 : w58.cell? ⟨gb585, 1, none⟩ = some (.string (⟨#[]⟩ : ByteArray)) := (blk_cell BK585.out 1).trans rfl; have hcz59_2 : w58.cell? ⟨gb585, 2, none⟩ = some (.string (⟨#[]⟩ : ByteArray)) := (blk_cell BK585.out 2).trans rfl; have hcz59_3 : w58.cell? ⟨gb585, 3, none⟩ = some (.bool false) := (blk_cell BK585.out 3).trans rfl; have hfz59_0 := blk_frozen BK585.out 0; have hfz59_1 := blk_frozen BK585.out 1; have hfz59_2 := blk_frozen BK585.out 2; have hfz59_3 := blk_frozen BK585.out 3))
    go_ret
    exact ⟨by first | rfl | (simp <;> rfl) | (simp [*] <;> rfl) | (simp [ne_nil_B, eq_nil_B]; done) | (simp [ne_nil_B, eq_nil_B] <;> rfl), by repeat (first | (with_reducible first | exact HB.out | apply below_alloc | apply pw_below_drewN | apply below_drew1 | refine below_set ?_ GE585.out) | exact HB.out)⟩
 ·replace c3 := Bool.eq_false_iff.mpr c3
  subst c3
  have H1 : (some false) = some r := by rw [if_neg (show ¬ (false = true) by decide)] at H; exact H
  clear H
  have H := H1
  clear H1
  obtain rfl := Option.some.inj H
  go_enter Tryd.func7, Tryd.ntmps7
  go_wp2_with (first | ((with_reducible refine gate_callee (f := 10) rfl ?_); refine goesL_ (some 10) rfl rfl Tryd.func10 (by kernel_rfl) rfl #[] rfl (by (try simp only [List.map_toArray, List.map_cons, List.map_nil]); first | done | rfl | (simp only [List.length_drop, List.length_take]; rfl)) ?_; (with_reducible refine (pantrylaw08_anchor.calls k  false _ A2.out).mono ?_); rintro e w60 ⟨rfl, hb⟩; refine ⟨_, rfl, ?_⟩; have n0_ := Aside0.mk (below_step (by repeat (first | (with_reducible first | exact HB.out | apply below_alloc | apply pw_below_drewN | apply below_drew1) | exact HB.out)) hb); clear HB; have HB := n0_; clear n0_; (try clear hb); (try clear hb2); (try clear hk); (try clear hi)))
  go_ret
  exact ⟨by first | rfl | (simp <;> rfl) | (simp [*] <;> rfl) | (simp [ne_nil_B, eq_nil_B]; done) | (simp [ne_nil_B, eq_nil_B] <;> rfl), by repeat (first | (with_reducible first | exact HB.out | apply below_alloc | apply pw_below_drewN | apply below_drew1) | exact HB.out)⟩
end Go.Proofs.YtgkgljendffhlaaDoor.P
