import Derived.Test.YtodfjcmjoogcgaaDoorZBodyFramesPx0
import Derived.Test.YtodfjcmjoogcgaaDoorZBodyFramesPx5
namespace Go.Proofs.YtodfjcmjoogcgaaDoor.P
open Go.RowKit Go.Proofs.YtodfjcmjoogcgaaDoorW.PrintWords Go.Proofs.YtodfjcmjoogcgaaDoorW.PrintLast Go.Proofs.YtodfjcmjoogcgaaDoorW.PrintMore
attribute [local go_sem] max2_int min2_int max_two min_two max_three min_three max_four min_four   -- for this text's walks alone
set_option linter.unusedVariables false
set_option linter.unusedSimpArgs false
/-! ### body_Chunks: function 10 -/
def body_Chunks.l0 : Nat → List Int → List Int → List Int → Int → Int → Option (List Int)
 | 0, _, _, _, _, _ => none
 | k + 1, x0, x5, x8, x9, x10 => if x10 < x9 then (if 0 ≤ x10 then (if x10 < (x8.length : Int) then (if (mn (rd x8 x10) (x0.length : Int)) > 0 then (if 0 ≤ (mn (rd x8 x10) (x0.length : Int)) then (if (mn (rd x8 x10) (x0.length : Int)) ≤ (x0.length : Int) then ((body_chunk.f x5 (x0.take ((mn (rd x8 x10) (x0.length : Int)) : Int).toNat)).bind fun t123 => (body_Chunks.l0 k (x0.drop ((mn (rd x8 x10) (x0.length : Int)) : Int).toNat) t123 x8 x9 (wrap64 (x10 + 1)))) else (none)) else (none)) else (body_Chunks.l0 k x0 x5 x8 x9 (wrap64 (x10 + 1)))) else (none)) else (none)) else (if (x0.length : Int) > 0 then ((body_chunk.f x5 x0).bind fun t131 => ((body_chunk.f t131 ([] : List Int)).bind fun t134 => (some t134))) else ((body_chunk.f x5 ([] : List Int)).bind fun t137 => (some t137)))
def body_Chunks.f (k : Nat) (l0 : List Int) (l1 : List Int) : Option (List Int) := body_Chunks.l0 k l0 ([] : List Int) l1 (l1.length : Int) 0
set_option maxHeartbeats 8000000 in
set_option maxRecDepth 100000 in
theorem body_Chunks.calls (k : Nat) (P0_ : Nat → Prop) (A0 : Option Addr) (c0 : Nat) (l0 : List Int) (A1 : Option Addr) (c1 : Nat) (l1 : List Int) (r : List Int) (w : World) (hs0 : Kd.V (Kd.int .u8) 5 w w.heap.size (fun k_ => P0_ k_) (.slice A0 l0.length c0) l0) (hr1 : Kd.C (Kd.int .i64) w A1 l1.length l1) (hc1 : l1.length ≤ c1) (h : body_Chunks.f k l0 l1 = some r) (hG : GW w := by first | (exact Aside0.out (by assumption)) | (refine GW.via (by assumption) ?_; repeat (first | (exact Aside0.out (by assumption)) | exact Below.refl _ _ | apply below_alloc | apply pw_below_drewN | apply below_drew1 | (refine below_set ?_ (Aside0.out (by assumption)))))) :
  Calls Tryd.prog 10 #[.slice A0 l0.length c0, .slice A1 l1.length c1] w fun e w' => ∃ v0_ : Value, e = .returned (v0_) ∧ Kd.R (Kd.int .u8) 5 w' w.heap.size (fun k_ => (w.heap.size ≤ k_)) v0_ r ∧ Below w.heap.size w w' := by
 have HO0 := Aside0.mk (show Kd.V (Kd.int .u8) 5 w w.heap.size (fun k_ => (P0_ k_ ∨ w.heap.size ≤ k_)) (.slice A0 l0.length c0) l0 from Kd.V_mono hs0 (fun k_ hk => .inl hk))
 have HR1 := Aside0.mk hr1
 have HC1 := Aside0.mk hc1
 clear hr1 hc1
 have HB := Aside0.mk (Below.refl w.heap.size w)
 have HG := Aside0.mk hG
 clear hG
 have H : (body_Chunks.l0 k l0 ([] : List Int) l1 (l1.length : Int) 0) = some r := h
 clear h
 have H' := Aside0.mk H
 clear H
 go_enter Tryd.func10, Tryd.ntmps10
 go_wp2
 go_loopg [0, 5, 10] k (fun kq v0 v5 v10 w' => ∃ (x0_1 : List Int) (x5_1 : List Int) (x10_1 : Int), v10 = .int .i64 x10_1 ∧ Aside0 (body_Chunks.l0 kq x0_1 x5_1 l1 (l1.length : Int) x10_1 = some r) ∧ Aside0 (kq ≤ k) ∧ Aside0 (Kd.V (Kd.int .u8) 5 w' w.heap.size (fun k_ => (P0_ k_ ∨ w.heap.size ≤ k_) ∧ some k_ ≠ (v5 : Value).ownBlock) v0 x0_1) ∧ Aside0 (Kd.R (Kd.int .u8) 5 w' w.heap.size (fun k_ => (w.heap.size ≤ k_)) v5 x5_1) ∧ Aside0 (Below w.heap.size w w'))
 case atStart => exact ⟨(l0), (([] : List Int)), (0), (by first | rfl | (simp; done) | (simp [*]; done) | (simp [ne_nil_B, eq_nil_B]; done)), H', ⟨Nat.le_refl _⟩, ⟨by (with_reducible repeat (first | apply Kd.V_alloc | apply Kd.V_drewN | apply Kd.V_drew)); exact Kd.V_mono HO0.out (fun _ hk => ⟨hk, (by simp [Value.ownBlock])⟩)⟩, ⟨by first | exact Kd.R_nil _ _ _ _ _ | exact Kd.N_nil _ _ _ _ _ | exact Kd.V_nil _ _ _ _ _ | exact Kd.Q_nil _ _ _ _ _ | exact Kd.S_nil _ _ _ _ _⟩, ⟨by repeat (first | (with_reducible first | exact HB.out | apply below_alloc | apply pw_below_drewN | apply below_drew1) | exact HB.out)⟩⟩
 case round =>
  clear H'
  (try clear c1); (try clear p2)
  obtain ⟨x0_1, x5_1, x10_1, rfl, HA, HK1, HO_0, HO_5, HB⟩ := hrel
  cases gk with
  | zero => exact absurd HA.out (by simp [body_Chunks.l0])
  | succ k1 =>
   have H := HA.out
   clear HA
   simp only [body_Chunks.l0] at H
   by_cases c3 : x10_1 < (l1.length : Int)
   ·rw [if_pos c3] at H
    have c3b0 : decide (x10_1 < (l1.length : Int)) = true := decide_eq_true c3
    clear c3
    by_cases c4 : 0 ≤ x10_1
    ·rw [if_pos c4] at H
     have c4b0 : decide (0 ≤ x10_1) = true := decide_eq_true c4
     clear c4
     by_cases c5 : x10_1 < (l1.length : Int)
     ·rw [if_pos c5] at H
      have c5b0 : decide (x10_1 < (l1.length : Int)) = true := decide_eq_true c5
      clear c5
      obtain ⟨ji6, hji6⟩ : ∃ j_ : Int, (mn (rd l1 x10_1) (x0_1.length : Int)) = j_ := ⟨_, rfl⟩
      replace H : (if (ji6) > 0 then (if 0 ≤ (ji6) then (if (ji6) ≤ (x0_1.length : Int) then ((body_chunk.f x5_1 (x0_1.take ((ji6) : Int).toNat)).bind fun t123 => (body_Chunks.l0 k1 (x0_1.drop ((ji6) : Int).toNat) t123 l1 (l1.length : Int) (wrap64 (x10_1 + 1)))) else (none)) else (none)) else (body_Chunks.l0 k1 x0_1 x5_1 l1 (l1.length : Int) (wrap64 (x10_1 + 1)))) = some r := by first | (rw [hji6] at H; exact H) | (simp only [hji6] at H ⊢; exact H)
      have hji6_ : (if (x0_1.length : Int) < (rd l1 x10_1) then (x0_1.length : Int) else (rd l1 x10_1)) = ji6 := hji6
      by_cases c7 : (ji6) > 0
      ·rw [if_pos c7] at H
       have c7b0 : decide (0 < (ji6)) = true := decide_eq_true c7
       clear c7
       by_cases c8 : 0 ≤ (ji6)
       ·rw [if_pos c8] at H
        have c8b0 := eq_true c8
        have c8b1 : decide (0 ≤ (ji6)) = true := decide_eq_true c8
        clear c8
        by_cases c9 : (ji6) ≤ (x0_1.length : Int)
        ·rw [if_pos c9] at H
         have c9b0 := eq_true c9
         have c9b1 : decide ((ji6) ≤ (x0_1.length : Int)) = true := decide_eq_true c9
         clear c9
         obtain ⟨y118, hy118⟩ : ∃ y_ : List Int, y_ = (x0_1.take ((ji6) : Int).toNat) := ⟨_, rfl⟩
         replace H : ((body_chunk.f x5_1 y118).bind fun t123 => (body_Chunks.l0 k1 (x0_1.drop ((ji6) : Int).toNat) t123 l1 (l1.length : Int) (wrap64 (x10_1 + 1)))) = some r := by first | (rw [hy118]; with_reducible exact H) | (have H2_ := (Option.bind_some _ _).symm.trans H; rw [hy118]; with_reducible exact H2_) | (have H2_ := (Option.bind_some _ _).symm.trans H; with_reducible exact H2_) | with_reducible exact H | (rw [hy118]; exact H) | exact H
         have Ny118 := Aside0.mk hy118
         have HY118 : Aside0 (y118.length = ((ji6) : Int).toNat) := ⟨by rw [hy118, List.length_take]; have h1_ : (ji6) ≤ (x0_1.length : Int) := (by first | (with_reducible assumption) | exact of_eq_true (by with_reducible assumption) | exact of_decide_eq_true (by with_reducible assumption)); omega⟩
         clear hy118
         replace H := Option.bind_eq_some_iff.mp H
         obtain ⟨t123, A100, H⟩ := H
         (try dsimp only at H)
         have A10 := Aside0.mk A100
         clear A100
         have c11b0 := eq_true (of_decide_eq_true (by assumption) : 0 ≤ (ji6))
         have c12b0 := eq_true (of_decide_eq_true (by assumption) : (ji6) ≤ (x0_1.length : Int))
         obtain ⟨y126, hy126⟩ : ∃ y_ : List Int, y_ = (x0_1.drop ((ji6) : Int).toNat) := ⟨_, rfl⟩
         replace H : (body_Chunks.l0 k1 y126 t123 l1 (l1.length : Int) (wrap64 (x10_1 + 1))) = some r := by first | (rw [hy126]; with_reducible exact H) | (have H2_ := (Option.bind_some _ _).symm.trans H; rw [hy126]; with_reducible exact H2_) | (have H2_ := (Option.bind_some _ _).symm.trans H; with_reducible exact H2_) | with_reducible exact H | (rw [hy126]; exact H) | exact H
         have Ny126 := Aside0.mk hy126
         clear hy126
         have H' := Aside0.mk H
         clear H
         have p117 : 0 ≤ (x10_1 : Int) := of_decide_eq_true (by assumption)
         have q117 : x10_1 < (l1.length : Int) := of_decide_eq_true (by assumption)
         obtain ⟨ad117, e117, hx117_0⟩ := Kd.at_int HR1.out x10_1 p117 q117
         cases e117
         replace hx117_0 := (HB.out.cell (World.block_lt_of_cell? w _ hx117_0)).trans hx117_0
         replace p117 := eq_true p117
         replace q117 := eq_true q117
         obtain ⟨Ao13, co13, eo13⟩ := Kd.V_slice HO_0.out
         subst eo13
         have q14 : ((ji6) : Int) ≤ ((x0_1.length : Int) : Int) := of_decide_eq_true (by assumption)
         obtain ⟨i014, hi014, _, hsz14, _⟩ := info_parts info5
         have hroom14 : x0_1.length ≤ co13 := (Kd.V_reads' HO_0.out).2.1
         have hC14 : Kd.F (Kd.int .u8) _ _ Ao13 x0_1.length x0_1 := (Kd.V_at (base := w.heap.size) HO_0.out).2.2
         have hcut14 := cut_to (P := Tryd.prog) 22 5 .i64 Tryd.underlying22 hi014 Ao13 x0_1.length co13 (ji6) (of_decide_eq_true (by assumption)) q14 hroom14
         have hr14 := Kd.F_take (m := ((ji6) : Int).toNat) hC14 (by omega)
         have hy14 : y118.length = ((ji6) : Int).toNat := (by rw [Ny118.out, List.length_take]; omega)
         rw [← Ny118.out] at hr14
         rw [← hy14] at hcut14
         have HO122 := Aside0.mk (show Kd.V (Kd.int .u8) 5 _ w.heap.size _ (.slice Ao13 y118.length co13) y118 from Kd.V_mk (by omega) hr14)
         have HC122 := Aside0.mk (show y118.length ≤ co13 from by omega)
         clear hr14 hC14 hroom14 hi014 hsz14
         have KY14 := Aside0.mk hy14
         clear hy14
         replace q14 := eq_true q14
         obtain ⟨Ao15, co15, eo15⟩ := Kd.R_slice HO_5.out
         subst eo15
         go_wp2_with (first | ((with_reducible refine gate_callee (f := 23) rfl ?_); refine goesL_ (some 24) rfl rfl Tryd.func23 (by kernel_rfl) rfl #[.slice Ao15 x5_1.length co15, .slice Ao13 y118.length co13] rfl (by (try simp only [List.map_toArray, List.map_cons, List.map_nil]); first | done | rfl | (simp only [List.length_drop, List.length_take]; rfl) | ((try rw [HY118.out]); first | done | rfl)) ?_; (with_reducible refine (body_chunk.calls (fun k_ => some k_ = (.slice Ao15 x5_1.length co15 : Value).ownBlock) (.slice Ao15 x5_1.length co15) x5_1 _ _ y118 t123 w _ ?side1 ?side2 ?side3 ?side4 A10.out).mono ?_); (case side1 => repeat (first | (with_reducible first | exact HB.out | apply below_alloc | apply pw_below_drewN | apply below_drew1) | exact HB.out)); (case side2 => exact Kd.R_tight rfl HO_5.out); (case side3 => exact Kd.C_kept_ownV (HO122.out) (fun k_ hk_ hs_ => (hk_.2) hs_)); (case side4 => exact (Kd.V_reads' HO122.out).2.1); rintro e w16 ⟨v124, rfl, ho0, hb, hkp⟩; refine ⟨_, rfl, ?_⟩; have n0_ := Aside0.mk (Kd.V_mono (ok' := fun k_ => (P0_ k_ ∨ w.heap.size ≤ k_) ∧ some k_ ≠ (v124 : Value).ownBlock) (Kd.V_keptB (HO_0.out) hkp (fun k_ hk_ hs_ => (hk_.2) hs_)) (fun k_ hk_ => ⟨hk_.1.1, fun e_ => Or.elim (ho0.1 k_ e_.symm) (fun hs_ => hk_.2.1 hs_) (fun hn_ => Nat.not_le.2 hk_.2.2 hn_)⟩)); have n1_ := Aside0.mk (Kd.V_mono (ok' := fun k_ => (P0_ k_ ∨ w.heap.size ≤ k_) ∧ some k_ ≠ (v124 : Value).ownBlock) (Kd.V_keptB (HO122.out) hkp (fun k_ hk_ hs_ => (hk_.2) hs_)) (fun k_ hk_ => ⟨hk_.1.1, fun e_ => Or.elim (ho0.1 k_ e_.symm) (fun hs_ => hk_.2.1 hs_) (fun hn_ => Nat.not_le.2 hk_.2.2 hn_)⟩)); have n2_ := Aside0.mk (Kd.R_mono (ok' := fun k_ => (w.heap.size ≤ k_)) ho0 (fun k_ hk_ => Or.elim hk_ (fun hs_ => (HO_5.out.1 k_ (hs_).symm)) (fun hn_ => (Nat.le_trans (below_size (by repeat (first | (with_reducible first | exact HB.out | apply below_alloc | apply pw_below_drewN | apply below_drew1) | exact HB.out))) hn_)))); have n3_ := Aside0.mk (hb); clear HO_0; clear HO122; clear HB; clear HO_5; have HO_0 := n0_; have HO122 := n1_; have HO125 := n2_; have HB := n3_; clear n0_ n1_ n2_ n3_; (try clear hb); (try clear hkp); (try clear ho0); have q17 : ((ji6) : Int) ≤ ((x0_1.length : Int) : Int) := of_decide_eq_true (by assumption); obtain ⟨i017, hi017, _, hsz17, _⟩ := info_parts info5; have hroom17 : x0_1.length ≤ co13 := (Kd.V_reads' HO_0.out).2.1; have hC17 : Kd.F (Kd.int .u8) _ _ Ao13 x0_1.length x0_1 := (Kd.V_at (base := w.heap.size) HO_0.out).2.2; have q017 : (0 : Int) ≤ ((ji6) : Int) := of_decide_eq_true (by assumption); have hcut17 := cut_from (P := Tryd.prog) 22 5 .i64 Tryd.underlying22 hi017 1 hsz17 Ao13 x0_1.length co13 (ji6) q017 q17; have hr17 := Kd.F_cut (m := ((ji6) : Int).toNat) (c := co13) hC17 (by omega) hroom17; obtain ⟨A17, hA17⟩ : ∃ A1, A1 = (if co13 = ((ji6) : Int).toNat then Ao13 else (Ao13 : Option Addr).map (·.add (((ji6) : Int).toNat * 1))) := ⟨_, rfl⟩; obtain ⟨c17, hc17⟩ : ∃ c1, c1 = co13 - ((ji6) : Int).toNat := ⟨_, rfl⟩; have hy17 : y126.length = x0_1.length - ((ji6) : Int).toNat := (by rw [Ny126.out, List.length_drop] <;> omega); rw [show (x0_1).drop ((ji6) : Int).toNat = y126 from Ny126.out.symm] at hr17; replace hr17 : Kd.F (Kd.int .u8) _ _ A17 y126.length y126 := (by rw [hA17]; exact hr17); rw [← hy17, ← hA17, ← hc17] at hcut17; have HO130 := Aside0.mk (show Kd.V (Kd.int .u8) 5 _ w.heap.size _ (.slice A17 y126.length c17) y126 from Kd.V_mk (by rw [hy17, hc17]; exact Nat.sub_le_sub_right hroom17 _) hr17); have HC130 := Aside0.mk (show y126.length ≤ c17 from by rw [hy17, hc17]; exact Nat.sub_le_sub_right hroom17 _); clear hr17 hC17 hroom17 hi017 hsz17 hc17; have KY17 := Aside0.mk hy17; have KA17 := Aside0.mk hA17; clear hy17 hA17; replace q17 := eq_true q17))
         go_roundg k1
         case measure => have := HK1.out; omega
         case rel => exact ⟨(y126), (t123), (wrap64 (x10_1 + 1)), (by first | rfl | (simp; done) | (simp [*]; done) | (simp [ne_nil_B, eq_nil_B]; done)), H', ⟨by have := HK1.out; omega⟩, ⟨by (with_reducible repeat (first | apply Kd.V_alloc | apply Kd.V_drewN | apply Kd.V_drew)); exact HO130.out⟩, ⟨by (with_reducible repeat (first | apply Kd.R_alloc | apply Kd.R_drewN | apply Kd.R_drew)); exact HO125.out⟩, ⟨by repeat (first | (with_reducible first | exact HB.out | apply below_alloc | apply pw_below_drewN | apply below_drew1) | exact HB.out)⟩⟩
        ·rw [if_neg c9] at H
         exact absurd H (by simp)
       ·rw [if_neg c8] at H
        exact absurd H (by simp)
      ·rw [if_neg c7] at H
       have c7b0 : decide (0 < (ji6)) = false := decide_eq_false c7
       clear c7
       have H' := Aside0.mk H
       clear H
       have p117 : 0 ≤ (x10_1 : Int) := of_decide_eq_true (by assumption)
       have q117 : x10_1 < (l1.length : Int) := of_decide_eq_true (by assumption)
       obtain ⟨ad117, e117, hx117_0⟩ := Kd.at_int HR1.out x10_1 p117 q117
       cases e117
       replace hx117_0 := (HB.out.cell (World.block_lt_of_cell? w _ hx117_0)).trans hx117_0
       replace p117 := eq_true p117
       replace q117 := eq_true q117
       obtain ⟨Ao18, co18, eo18⟩ := Kd.V_slice HO_0.out
       subst eo18
       go_wp2
       go_roundg k1
       case measure => have := HK1.out; omega
       case rel => exact ⟨(x0_1), (x5_1), (wrap64 (x10_1 + 1)), (by first | rfl | (simp; done) | (simp [*]; done) | (simp [ne_nil_B, eq_nil_B]; done)), H', ⟨by have := HK1.out; omega⟩, ⟨by (with_reducible repeat (first | apply Kd.V_alloc | apply Kd.V_drewN | apply Kd.V_drew)); exact HO_0.out⟩, ⟨by (with_reducible repeat (first | apply Kd.R_alloc | apply Kd.R_drewN | apply Kd.R_drew)); exact HO_5.out⟩, ⟨by repeat (first | (with_reducible first | exact HB.out | apply below_alloc | apply pw_below_drewN | apply below_drew1) | exact HB.out)⟩⟩
     ·rw [if_neg c5] at H
      exact absurd H (by simp)
    ·rw [if_neg c4] at H
     exact absurd H (by simp)
   ·rw [if_neg c3] at H
    have c3b0 : decide (x10_1 < (l1.length : Int)) = false := decide_eq_false c3
    clear c3
    by_cases c19 : (x0_1.length : Int) > 0
    ·rw [if_pos c19] at H
     have c19b0 : decide (0 < (x0_1.length : Int)) = true := decide_eq_true c19
     have c19b1 : decide (0 < x0_1.length) = true := decide_eq_true (by omega)
     clear c19
     replace H := Option.bind_eq_some_iff.mp H
     obtain ⟨t131, A200, H⟩ := H
     (try dsimp only at H)
     have A20 := Aside0.mk A200
     clear A200
     replace H := Option.bind_eq_some_iff.mp H
     obtain ⟨t134, A210, H⟩ := H
     (try dsimp only at H)
     have A21 := Aside0.mk A210
     clear A210
     obtain rfl := Option.some.inj H
     obtain ⟨Ao22, co22, eo22⟩ := Kd.V_slice HO_0.out
     subst eo22
     obtain ⟨Ao23, co23, eo23⟩ := Kd.R_slice HO_5.out
     subst eo23
     go_wp2_with (first | ((with_reducible refine gate_callee (f := 23) rfl ?_); refine goesL_ (some 34) rfl rfl Tryd.func23 (by kernel_rfl) rfl #[.slice Ao23 x5_1.length co23, .slice Ao22 x0_1.length co22] rfl (by (try simp only [List.map_toArray, List.map_cons, List.map_nil]); first | done | rfl | (simp only [List.length_drop, List.length_take]; rfl)) ?_; (with_reducible refine (body_chunk.calls (fun k_ => some k_ = (.slice Ao23 x5_1.length co23 : Value).ownBlock) (.slice Ao23 x5_1.length co23) x5_1 _ _ x0_1 t131 w _ ?side1 ?side2 ?side3 ?side4 A20.out).mono ?_); (case side1 => repeat (first | (with_reducible first | exact HB.out | apply below_alloc | apply pw_below_drewN | apply below_drew1) | exact HB.out)); (case side2 => exact Kd.R_tight rfl HO_5.out); (case side3 => exact Kd.C_kept_ownV (HO_0.out) (fun k_ hk_ hs_ => (hk_.2) hs_)); (case side4 => exact (Kd.V_reads' HO_0.out).2.1); rintro e w24 ⟨v132, rfl, ho0, hb, hkp⟩; refine ⟨_, rfl, ?_⟩; have n0_ := Aside0.mk (Kd.V_mono (ok' := fun k_ => (P0_ k_ ∨ w.heap.size ≤ k_) ∧ some k_ ≠ (v132 : Value).ownBlock) (Kd.V_keptB (HO_0.out) hkp (fun k_ hk_ hs_ => (hk_.2) hs_)) (fun k_ hk_ => ⟨hk_.1.1, fun e_ => Or.elim (ho0.1 k_ e_.symm) (fun hs_ => hk_.2.1 hs_) (fun hn_ => Nat.not_le.2 hk_.2.2 hn_)⟩)); have n1_ := Aside0.mk (Kd.R_mono (ok' := fun k_ => (w.heap.size ≤ k_)) ho0 (fun k_ hk_ => Or.elim hk_ (fun hs_ => (HO_5.out.1 k_ (hs_).symm)) (fun hn_ => (Nat.le_trans (below_size (by repeat (first | (with_reducible first | exact HB.out | apply below_alloc | apply pw_below_drewN | apply below_drew1) | exact HB.out))) hn_)))); have n2_ := Aside0.mk (hb); clear HO_0; clear HB; clear HO_5; have HO_0 := n0_; have HO133 := n1_; have HB := n2_; clear n0_ n1_ n2_; (try clear hb); (try clear hkp); (try clear ho0); obtain ⟨Ao25, co25, eo25⟩ := Kd.R_slice HO133.out; subst eo25) | ((with_reducible refine gate_callee (f := 23) rfl ?_); refine goesL_ (some 36) rfl rfl Tryd.func23 (by kernel_rfl) rfl #[.slice Ao25 t131.length co25, .slice none 0 0] rfl (by (try simp only [List.map_toArray, List.map_cons, List.map_nil]); first | done | rfl | (simp only [List.length_drop, List.length_take]; rfl)) ?_; (refine (body_chunk.calls (fun k_ => some k_ = (.slice Ao25 t131.length co25 : Value).ownBlock) (.slice Ao25 t131.length co25) t131 _ _ ([] : List Int) t134 w _ ?side1 ?side2 ?side3 ?side4 A21.out).mono ?_); (case side1 => repeat (first | (with_reducible first | exact HB.out | apply below_alloc | apply pw_below_drewN | apply below_drew1) | exact HB.out)); (case side2 => exact Kd.R_tight rfl HO133.out); (case side3 => exact Kd.C_kept_nil); (case side4 => exact Nat.le_refl _); rintro e w26 ⟨v135, rfl, ho0, hb, hkp⟩; refine ⟨_, rfl, ?_⟩; have n0_ := Aside0.mk (Kd.V_mono (ok' := fun k_ => (P0_ k_ ∨ w.heap.size ≤ k_) ∧ some k_ ≠ (v135 : Value).ownBlock) (Kd.V_keptB (HO_0.out) hkp (fun k_ hk_ hs_ => (hk_.2) hs_)) (fun k_ hk_ => ⟨hk_.1.1, fun e_ => Or.elim (ho0.1 k_ e_.symm) (fun hs_ => hk_.2.1 hs_) (fun hn_ => Nat.not_le.2 hk_.2.2 hn_)⟩)); have n1_ := Aside0.mk (Kd.R_mono (ok' := fun k_ => (w.heap.size ≤ k_)) ho0 (fun k_ hk_ => Or.elim hk_ (fun hs_ => (HO133.out.1 k_ (hs_).symm)) (fun hn_ => (Nat.le_trans (below_size (by repeat (first | (with_reducible first | exact HB.out | apply below_alloc | apply pw_below_drewN | apply below_drew1) | exact HB.out))) hn_)))); have n2_ := Aside0.mk (hb); clear HO_0; clear HB; clear HO133; have HO_0 := n0_; have HO136 := n1_; have HB := n2_; clear n0_ n1_ n2_; (try clear hb); (try clear hkp); (try clear ho0)))
     go_ret
     exact ⟨_, by first | rfl | (simp <;> rfl) | (simp [*] <;> rfl) | (simp [ne_nil_B, eq_nil_B]; done) | (simp [ne_nil_B, eq_nil_B] <;> rfl), by (with_reducible repeat (first | apply Kd.R_alloc | apply Kd.R_drewN | apply Kd.R_drew)); exact HO136.out, by repeat (first | (with_reducible first | exact HB.out | apply below_alloc | apply pw_below_drewN | apply below_drew1) | exact HB.out)⟩
    ·rw [if_neg c19] at H
     have c19b0 : decide (0 < (x0_1.length : Int)) = false := decide_eq_false c19
     have c19b1 : decide (0 < x0_1.length) = false := decide_eq_false (by omega)
     clear c19
     replace H := Option.bind_eq_some_iff.mp H
     obtain ⟨t137, A270, H⟩ := H
     (try dsimp only at H)
     have A27 := Aside0.mk A270
     clear A270
     obtain rfl := Option.some.inj H
     obtain ⟨Ao28, co28, eo28⟩ := Kd.V_slice HO_0.out
     subst eo28
     obtain ⟨Ao29, co29, eo29⟩ := Kd.R_slice HO_5.out
     subst eo29
     go_wp2_with (first | ((with_reducible refine gate_callee (f := 23) rfl ?_); refine goesL_ (some 36) rfl rfl Tryd.func23 (by kernel_rfl) rfl #[.slice Ao29 x5_1.length co29, .slice none 0 0] rfl (by (try simp only [List.map_toArray, List.map_cons, List.map_nil]); first | done | rfl | (simp only [List.length_drop, List.length_take]; rfl)) ?_; (refine (body_chunk.calls (fun k_ => some k_ = (.slice Ao29 x5_1.length co29 : Value).ownBlock) (.slice Ao29 x5_1.length co29) x5_1 _ _ ([] : List Int) t137 w _ ?side1 ?side2 ?side3 ?side4 A27.out).mono ?_); (case side1 => repeat (first | (with_reducible first | exact HB.out | apply below_alloc | apply pw_below_drewN | apply below_drew1) | exact HB.out)); (case side2 => exact Kd.R_tight rfl HO_5.out); (case side3 => exact Kd.C_kept_nil); (case side4 => exact Nat.le_refl _); rintro e w30 ⟨v138, rfl, ho0, hb, hkp⟩; refine ⟨_, rfl, ?_⟩; have n0_ := Aside0.mk (Kd.V_mono (ok' := fun k_ => (P0_ k_ ∨ w.heap.size ≤ k_) ∧ some k_ ≠ (v138 : Value).ownBlock) (Kd.V_keptB (HO_0.out) hkp (fun k_ hk_ hs_ => (hk_.2) hs_)) (fun k_ hk_ => ⟨hk_.1.1, fun e_ => Or.elim (ho0.1 k_ e_.symm) (fun hs_ => hk_.2.1 hs_) (fun hn_ => Nat.not_le.2 hk_.2.2 hn_)⟩)); have n1_ := Aside0.mk (Kd.R_mono (ok' := fun k_ => (w.heap.size ≤ k_)) ho0 (fun k_ hk_ => Or.elim hk_ (fun hs_ => (HO_5.out.1 k_ (hs_).symm)) (fun hn_ => (Nat.le_trans (below_size (by repeat (first | (with_reducible first | exact HB.out | apply below_alloc | apply pw_below_drewN | apply below_drew1) | exact HB.out))) hn_)))); have n2_ := Aside0.mk (hb); clear HO_0; clear HB; clear HO_5; have HO_0 := n0_; have HO139 := n1_; have HB := n2_; clear n0_ n1_ n2_; (try clear hb); (try clear hkp); (try clear ho0)))
     go_ret
     exact ⟨_, by first | rfl | (simp <;> rfl) | (simp [*] <;> rfl) | (simp [ne_nil_B, eq_nil_B]; done) | (simp [ne_nil_B, eq_nil_B] <;> rfl), by (with_reducible repeat (first | apply Kd.R_alloc | apply Kd.R_drewN | apply Kd.R_drew)); exact HO139.out, by repeat (first | (with_reducible first | exact HB.out | apply below_alloc | apply pw_below_drewN | apply below_drew1) | exact HB.out)⟩
/-! ### pantrylaw06_anchor: function 9 -/
/-- A constant's bytes as a slice: what stands in the marked row. -/
theorem C_const (w : World) (xs : List Int) (cs : Array Value) (hcs : cs.toList = xs.map (Value.int .u8)) (e : TypeId) (fz : Nat × Nat) (hn : xs.length ≤ 9223372036854775807) : Kd.C (Kd.int .u8) (w.alloc (.cells cs e fz)) (some ⟨w.heap.size, 0, none⟩) xs.length xs := by
 refine ⟨rfl, hn, fun _ => ⟨_, rfl, fun q p hp => ⟨[.int .u8 p], rfl, rfl, fun i u hu => ?_⟩⟩⟩
 have hi : i = 0 := by rcases i with _ | i; rfl; simp at hu
 subst hi
 have hu : Value.int .u8 p = u := by simpa using hu
 subst hu
 have h2 : (⟨w.heap.size, 0, none⟩ : Addr).add (q * (Kd.int .u8).sz + 0) = ⟨w.heap.size, q, none⟩ := by simp [Addr.add, Kd.int, Kd.scalar]; intro h; exact h.symm
 have hb : (w.alloc (.cells cs e fz)).heap[w.heap.size]? = some (.cells cs e fz) := by simpa using heap_alloc_new w (.cells cs e fz)
 rw [h2, cell_of_row _ _ q cs e fz hb, ← Array.getElem?_toList, hcs, List.getElem?_map, hp]
 rfl
def pantrylaw06_anchor.f : Option Bool := some true
def anc1 : List Int := [51, 13, 10, 97, 98, 99, 13, 10, 48, 13, 10, 13, 10, 120]
theorem anc_read : body_Read.f 2 0 anc1 false = some ([97, 98, 99], 13, 0) := by decide +kernel
theorem anc_chunks : body_Chunks.f 5 [97, 98, 99] [] = some [51, 13, 10, 97, 98, 99, 13, 10, 48, 13, 10, 13, 10] := by decide +kernel
set_option maxHeartbeats 8000000 in
set_option maxRecDepth 100000 in
theorem pantrylaw06_anchor.calls (r : Bool) (w : World) (h : pantrylaw06_anchor.f = some r) (hG : GW w := by first | (exact Aside0.out (by assumption)) | (refine GW.via (by assumption) ?_; repeat (first | (exact Aside0.out (by assumption)) | exact Below.refl _ _ | apply below_alloc | apply pw_below_drewN | apply below_drew1 | (refine below_set ?_ (Aside0.out (by assumption)))))) :
  Calls Tryd.prog 9 #[] w fun e w' => e = .returned (.bool r) ∧ Below w.heap.size w w' := by
 obtain rfl := Option.some.inj h
 clear h
 have HG := Aside0.mk hG
 clear hG
 have hcv1 := fun W => Lib.run_convert_bytes_const (P := Tryd.prog) W 22 5 #[.int .u8 51, .int .u8 13, .int .u8 10, .int .u8 97, .int .u8 98, .int .u8 99, .int .u8 13, .int .u8 10, .int .u8 48, .int .u8 13, .int .u8 10, .int .u8 13, .int .u8 10, .int .u8 120] 14 14 Tryd.underlying22 Tryd.underlying5
 have hcv2 := fun W => Lib.run_convert_bytes_const (P := Tryd.prog) W 22 5 #[.int .u8 97, .int .u8 98, .int .u8 99] 3 3 Tryd.underlying22 Tryd.underlying5
 have hq1 : ((strOfNums [51, 13, 10, 97, 98, 99, 13, 10, 48, 13, 10, 13, 10]).toList == [51, 13, 10, 97, 98, 99, 13, 10, 48, 13, 10, 13, 10]) = true := by decide +kernel
 have hq2 : ((strOfNums [97, 98, 99]).toList == [97, 98, 99]) = true := by decide +kernel
 go_enter Tryd.func9, Tryd.ntmps9
 go_wp2_with (first | (go_at_call 11; refine (body_Read.calls 2 0 _ _ anc1 false _ 13 0 _ (C_const _ anc1 _ rfl _ _ (by decide)) (by decide) anc_read).mono ?_; rintro e w9 ⟨v144, rfl, ho0, hb⟩; have HO1 := Aside0.mk ho0; have HB := Aside0.mk (below_step (below_alloc (Below.refl w.heap.size w) _) hb); clear ho0 hb) | (go_at_call 10; (refine (body_Chunks.calls 5 (fun _ => True) _ _ ([97, 98, 99] : List Int) none 0 ([] : List Int) _ _ (Kd.V_mk (by decide) (Kd.F_mono (Kd.C_F (Kd.heap_int .u8) (C_const w9 ([97, 98, 99] : List Int) #[.int .u8 97, .int .u8 98, .int .u8 99] rfl 5 (3, 4) (by decide))) (fun _ _ => trivial))) (Kd.C_nil _ _) (Nat.le_refl _) anc_chunks (GW.via HG (below_alloc HB.out _))).mono ?_); rintro e w13 ⟨v152, rfl, ho0, hb⟩; have HO2 := Aside0.mk ho0; have HB3 := Aside0.mk (below_step (below_alloc HB.out _) hb); have hcv14 := own_string (P := Tryd.prog) Tryd.underlying22 Tryd.underlying5 Tryd.underlying9 (Kd.own_of_R HO2.out); have hcq14 := fun n_ : Nat => own_string (P := Tryd.prog) Tryd.underlying22 Tryd.underlying5 Tryd.underlying9 (Kd.own_of_R (Kd.R_drewN (HO2.out) n_)); have HO4 := Aside0.mk (Kd.R_below (Kd.R_alloc HO1.out _) hb); have hcv15 := own_string (P := Tryd.prog) Tryd.underlying22 Tryd.underlying5 Tryd.underlying9 (Kd.own_of_R HO4.out); have hcq15 := fun n_ : Nat => own_string (P := Tryd.prog) Tryd.underlying22 Tryd.underlying5 Tryd.underlying9 (Kd.own_of_R (Kd.R_drewN (HO4.out) n_))))
 go_ret
 exact ⟨by first | rfl | simp [hq1, hq2], HB3.out⟩
end Go.Proofs.YtodfjcmjoogcgaaDoor.P
