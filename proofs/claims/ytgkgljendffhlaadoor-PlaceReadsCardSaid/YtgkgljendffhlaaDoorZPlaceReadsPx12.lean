import Derived.Test.YtgkgljendffhlaaDoorZPlaceReadsPx0
import Derived.Test.YtgkgljendffhlaaDoorZPlaceReadsPx11
namespace Go.Proofs.YtgkgljendffhlaaDoor.P
open Go.RowKit Go.Proofs.YtgkgljendffhlaaDoorW.PrintWords Go.Proofs.YtgkgljendffhlaaDoorW.PrintLast Go.Proofs.YtgkgljendffhlaaDoorW.PrintMore
attribute [local go_sem] max2_int min2_int max_two min_two max_three min_three max_four min_four u8_div16 u8_mod16
set_option linter.unusedVariables false
set_option linter.unusedSimpArgs false
/-! ### pantryref08_Path: function 27 -/
mutual
def pantryref08_Path.l0 : Nat → List ByteArray → List ByteArray → Int → Option (ByteArray)
 | 0, _, _, _ => none
 | k + 1, x3, x4, x5 => if x5 < (x3.length : Int) then (if 0 ≤ x5 then (if (rdOf ByteArray.empty x3 x5).toList = ([46] : List UInt8) then (pantryref08_Path.j1 k x3 x4 x5 true) else (pantryref08_Path.j1 k x3 x4 x5 ((rdOf ByteArray.empty x3 x5).toList == ([46, 46] : List UInt8)))) else (none)) else (pantryref08_Path.l1 k x4 (⟨#[]⟩ : ByteArray) 0)
def pantryref08_Path.j1 : Nat → List ByteArray → List ByteArray → Int → Bool → Option (ByteArray)
 | 0, _, _, _, _ => none
 | k + 1, x3, x4, x5, x6 => if x6 = true then (pantryref08_Path.j2 k x3 x4 x5 x6) else (if 0 ≤ x5 then (if x5 < (x3.length : Int) then (if x4.length < 8796093022208 then (pantryref08_Path.j2 k x3 (x4 ++ [rdOf ByteArray.empty x3 x5]) x5 x6) else (none)) else (none)) else (none))
def pantryref08_Path.j2 : Nat → List ByteArray → List ByteArray → Int → Bool → Option (ByteArray)
 | 0, _, _, _, _ => none
 | k + 1, x3, x4, x5, x6 => if 0 ≤ x5 then (if x5 < (x3.length : Int) then (if (rdOf ByteArray.empty x3 x5).toList = ([46, 46] : List UInt8) then (pantryref08_Path.j3 k x3 x4 x5 x6 (decide ((x4.length : Int) > 0))) else (pantryref08_Path.j3 k x3 x4 x5 x6 false)) else (none)) else (none)
def pantryref08_Path.j3 : Nat → List ByteArray → List ByteArray → Int → Bool → Bool → Option (ByteArray)
 | 0, _, _, _, _, _ => none
 | k + 1, x3, x4, x5, x6, x47 => if x47 = true then (if 0 ≤ (wrap64 ((x4.length : Int) - 1)) then (if (wrap64 ((x4.length : Int) - 1)) ≤ (x4.length : Int) then ((some (x4.take ((wrap64 ((x4.length : Int) - 1)) : Int).toNat : List ByteArray)).bind fun y243 => (if x6 = true then (if x5 = (wrap64 ((x3.length : Int) - 1)) then (if y243.length < 8796093022208 then (pantryref08_Path.l0 k x3 (y243 ++ [(⟨#[]⟩ : ByteArray)]) (wrap64 (x5 + 1))) else (none)) else (pantryref08_Path.l0 k x3 y243 (wrap64 (x5 + 1)))) else (pantryref08_Path.l0 k x3 y243 (wrap64 (x5 + 1))))) else (none)) else (none)) else (if x6 = true then (if x5 = (wrap64 ((x3.length : Int) - 1)) then (if x4.length < 8796093022208 then (pantryref08_Path.l0 k x3 (x4 ++ [(⟨#[]⟩ : ByteArray)]) (wrap64 (x5 + 1))) else (none)) else (pantryref08_Path.l0 k x3 x4 (wrap64 (x5 + 1)))) else (pantryref08_Path.l0 k x3 x4 (wrap64 (x5 + 1))))
def pantryref08_Path.l1 : Nat → List ByteArray → ByteArray → Int → Option (ByteArray)
 | 0, _, _, _ => none
 | k + 1, x4, x7, x8 => if x8 < (x4.length : Int) then (if 0 ≤ x8 then (if 1 + (rdOf ByteArray.empty x4 x8).size ≤ 9223372036854775807 then (if x7.size + ((⟨#[47]⟩ : ByteArray) ++ (rdOf ByteArray.empty x4 x8)).size ≤ 9223372036854775807 then (pantryref08_Path.l1 k x4 (x7 ++ ((⟨#[47]⟩ : ByteArray) ++ (rdOf ByteArray.empty x4 x8))) (wrap64 (x8 + 1))) else (none)) else (none)) else (none)) else (if x7.toList = ([] : List UInt8) then (some (⟨#[47]⟩ : ByteArray)) else (some x7))
end
def pantryref08_Path.f (k : Nat) (a0 : ByteArray) : Option (ByteArray) := (pantryref08_segments.f k a0).bind fun t233 => (pantryref08_Path.l0 k t233 ([] : List ByteArray) 0)
set_option maxHeartbeats 8000000 in
set_option maxRecDepth 100000 in
theorem pantryref08_Path.calls (k : Nat) (a0 : ByteArray) (r : ByteArray) (w : World) (h : pantryref08_Path.f k a0 = some r) :
  Calls Tryd.prog 27 #[.string a0] w fun e w' => e = .returned (.string r) ∧ Below w.heap.size w w' := by
 have HB := Aside0.mk (Below.refl w.heap.size w)
 have H : ((pantryref08_segments.f k a0).bind fun t233 => (pantryref08_Path.l0 k t233 ([] : List ByteArray) 0)) = some r := h
 clear h
 replace H := Option.bind_eq_some_iff.mp H
 obtain ⟨t233, A20, H⟩ := H
 (try dsimp only at H)
 have A2 := Aside0.mk A20
 clear A20
 have H' := Aside0.mk H
 clear H
 go_enter Tryd.func27, Tryd.ntmps27
 go_wp2_with (first | ((with_reducible refine gate_callee (f := 45) rfl ?_); refine goesL_ (some 10) rfl rfl Tryd.func45 (by kernel_rfl) rfl #[.string a0] rfl (by (try simp only [List.map_toArray, List.map_cons, List.map_nil]); first | done | rfl | (simp only [List.length_drop, List.length_take]; rfl)) ?_; (with_reducible refine (pantryref08_segments.calls k a0 t233 _ A2.out).mono ?_); rintro e w3 ⟨v234, rfl, ho0, hb⟩; refine ⟨_, rfl, ?_⟩; have n0_ := Aside0.mk (Kd.R_lower ho0 (below_size (by repeat (first | (with_reducible first | exact HB.out | apply below_alloc | apply pw_below_drewN | apply below_drew1) | exact HB.out)))); have n1_ := Aside0.mk (below_step (by repeat (first | (with_reducible first | exact HB.out | apply below_alloc | apply pw_below_drewN | apply below_drew1) | exact HB.out)) hb); clear HB; have HO235 := n0_; have HB := n1_; clear n0_ n1_; (try clear hb); (try clear hb2); (try clear hk); (try clear hi); (try clear ho0)))
 go_loopg [4, 5] k (fun kq v4 v5 w' => ∃ (x4_1 : List ByteArray) (x5_1 : Int), v5 = .int .i64 x5_1 ∧ Aside0 (pantryref08_Path.l0 kq t233 x4_1 x5_1 = some r) ∧ Aside0 (kq ≤ k) ∧ Aside0 (Kd.R Kd.string 9 w' w.heap.size (fun k_ => some k_ ≠ (v4 : Value).ownBlock) v234 t233) ∧ Aside0 (Kd.R Kd.string 9 w' w.heap.size (fun k_ => some k_ ≠ (v234 : Value).ownBlock) v4 x4_1) ∧ Aside0 (Below w.heap.size w w'))
 case atStart => exact ⟨(([] : List ByteArray)), (0), (by first | rfl | (simp; done) | (simp [*]; done) | (simp [ne_nil_B, eq_nil_B]; done)), H', ⟨Nat.le_refl _⟩, ⟨by (with_reducible repeat (first | apply Kd.R_alloc | apply Kd.R_drewN | apply Kd.R_drew)); exact Kd.R_mono HO235.out (fun _ hk => (by simp [Value.ownBlock]))⟩, ⟨by first | exact Kd.R_nil _ _ _ _ _ | exact Kd.N_nil _ _ _ _ _ | exact Kd.V_nil _ _ _ _ _ | exact Kd.Q_nil _ _ _ _ _ | exact Kd.S_nil _ _ _ _ _⟩, ⟨by repeat (first | (with_reducible first | exact HB.out | apply below_alloc | apply pw_below_drewN | apply below_drew1) | exact HB.out)⟩⟩
 case round =>
  clear H'
  (try clear c2); (try clear p2)
  obtain ⟨x4_1, x5_1, rfl, HA, HK1, HO_3, HO_4, HB⟩ := hrel
  cases gk with
  | zero => exact absurd HA.out (by simp [pantryref08_Path.l0])
  | succ k1 =>
   have H := HA.out
   clear HA
   simp only [pantryref08_Path.l0] at H
   by_cases c4 : x5_1 < (t233.length : Int)
   ·rw [if_pos c4] at H
    have c4b0 : decide (x5_1 < (t233.length : Int)) = true := decide_eq_true c4
    clear c4
    have HC5 := Aside0.mk H
    clear H
    obtain ⟨Ao6, co6, eo6⟩ := Kd.R_slice HO_3.out
    subst eo6
    go_upto_region 6 with (fail)
    go_cut [6] (fun v6 wc => ∃ (kq : Nat) (x6_4 : Bool), v6 = .bool x6_4 ∧ Aside0 (pantryref08_Path.j1 kq t233 x4_1 x5_1 x6_4 = some r) ∧ Aside0 (kq ≤ k1) ∧ Aside0 (Kd.R Kd.string 9 wc w.heap.size (fun k_ => some k_ ≠ (u4 : Value).ownBlock) (.slice Ao6 t233.length co6) t233) ∧ Aside0 (Kd.R Kd.string 9 wc w.heap.size (fun k_ => some k_ ≠ ((.slice Ao6 t233.length co6) : Value).ownBlock) u4 x4_1) ∧ Aside0 (Below w.heap.size w wc))
    case first =>
     have H := HC5.out
     clear HC5
     by_cases c7 : 0 ≤ x5_1
     ·rw [if_pos c7] at H
      have c7b0 : decide (0 ≤ x5_1) = true := decide_eq_true c7
      clear c7
      (first | rw [c7b0] | (simp only [i64_w, i32_w]; rw [c7b0]) | skip)
      by_cases c8 : (rdOf ByteArray.empty t233 x5_1).toList = ([46] : List UInt8)
      ·rw [if_pos c8] at H
       have c8b0 : ((rdOf ByteArray.empty t233 x5_1).toList == ([46] : List UInt8)) = true := beq_iff_eq.mpr c8
       have c8b1 : ((rdOf ByteArray.empty t233 x5_1).toList != ([46] : List UInt8)) = false := bne_eq_false_iff_eq.mpr c8
       clear c8
       have H' := Aside0.mk H
       clear H
       have p236 : 0 ≤ (x5_1 : Int) := of_decide_eq_true (by assumption)
       have q236 : x5_1 < (t233.length : Int) := of_decide_eq_true (by assumption)
       obtain ⟨ad236, e236, hx236_0⟩ := Kd.at_string (Kd.R_reads' HO_3.out).2.2 x5_1 p236 q236
       cases e236
       replace p236 := eq_true p236
       replace q236 := eq_true q236
       go_wp2
       go_meet
       case rel => exact ⟨_, (true), (by first | rfl | (simp; done) | (simp [*]; done) | (simp [ne_nil_B, eq_nil_B]; done)), H', ⟨by have := HK1.out; first | omega | exact Nat.le_refl _⟩, ⟨by (with_reducible repeat (first | apply Kd.R_alloc | apply Kd.R_drewN | apply Kd.R_drew)); first | exact HO_3.out | exact R_own_len HO_3.out | exact R_own_len2 HO_3.out⟩, ⟨by (with_reducible repeat (first | apply Kd.R_alloc | apply Kd.R_drewN | apply Kd.R_drew)); first | exact HO_4.out | exact R_own_len HO_4.out | exact R_own_len2 HO_4.out⟩, ⟨by repeat (first | (with_reducible first | exact HB.out | apply below_alloc | apply pw_below_drewN | apply below_drew1) | exact HB.out)⟩⟩
      ·rw [if_neg c8] at H
       have c8b0 : ((rdOf ByteArray.empty t233 x5_1).toList == ([46] : List UInt8)) = false := beq_eq_false_iff_ne.mpr c8
       have c8b1 : ((rdOf ByteArray.empty t233 x5_1).toList != ([46] : List UInt8)) = true := bne_iff_ne.mpr c8
       have H' := Aside0.mk H
       clear H
       have p236 : 0 ≤ (x5_1 : Int) := of_decide_eq_true (by assumption)
       have q236 : x5_1 < (t233.length : Int) := of_decide_eq_true (by assumption)
       obtain ⟨ad236, e236, hx236_0⟩ := Kd.at_string (Kd.R_reads' HO_3.out).2.2 x5_1 p236 q236
       cases e236
       replace p236 := eq_true p236
       replace q236 := eq_true q236
       have p237 : 0 ≤ (x5_1 : Int) := of_decide_eq_true (by assumption)
       have q237 : x5_1 < (t233.length : Int) := of_decide_eq_true (by assumption)
       obtain ⟨ad237, e237, hx237_0⟩ := Kd.at_string (Kd.R_reads' HO_3.out).2.2 x5_1 p237 q237
       obtain rfl : ad236 = ad237 := (by injection e237)
       replace p237 := eq_true p237
       replace q237 := eq_true q237
       go_wp2
       go_meet
       case rel => exact ⟨_, (((rdOf ByteArray.empty t233 x5_1).toList == ([46, 46] : List UInt8))), (by first | rfl | (simp; done) | (simp [*]; done) | (simp [ne_nil_B, eq_nil_B]; done)), H', ⟨by have := HK1.out; first | omega | exact Nat.le_refl _⟩, ⟨by (with_reducible repeat (first | apply Kd.R_alloc | apply Kd.R_drewN | apply Kd.R_drew)); first | exact HO_3.out | exact R_own_len HO_3.out | exact R_own_len2 HO_3.out⟩, ⟨by (with_reducible repeat (first | apply Kd.R_alloc | apply Kd.R_drewN | apply Kd.R_drew)); first | exact HO_4.out | exact R_own_len HO_4.out | exact R_own_len2 HO_4.out⟩, ⟨by repeat (first | (with_reducible first | exact HB.out | apply below_alloc | apply pw_below_drewN | apply below_drew1) | exact HB.out)⟩⟩
     ·rw [if_neg c7] at H
      exact absurd H (by simp)
    case rest =>
     clear HC5
     (try clear c2); (try clear p2); (try clear q2); (try clear hx2); (try clear c4); (try clear c4b0); (try clear c7); (try clear c7b0); (try clear c8); (try clear c8b0); (try clear c8b1); (try clear hx236_0); (try clear hx237_0); (try clear p2); (try clear p236); (try clear p237); (try clear q236); (try clear q237)
     obtain ⟨kq, x6_4, rfl, HA, HJ4, HO_3, HO_4, HB⟩ := hcut
     cases kq with
     | zero => exact absurd HA.out (by simp [pantryref08_Path.j1])
     | succ kj4 =>
      have H := HA.out
      clear HA
      simp only [pantryref08_Path.j1] at H
      have HC9 := Aside0.mk H
      clear H
      go_upto_if 30 with (fail)
      go_cut [4] (fun v4 wc => ∃ (kq : Nat) (x4_8 : List ByteArray), Aside0 (pantryref08_Path.j2 kq t233 x4_8 x5_1 x6_4 = some r) ∧ Aside0 (kq ≤ kj4) ∧ Aside0 (Kd.R Kd.string 9 wc w.heap.size (fun k_ => some k_ ≠ (v4 : Value).ownBlock) (.slice Ao6 t233.length co6) t233) ∧ Aside0 (Kd.R Kd.string 9 wc w.heap.size (fun k_ => some k_ ≠ ((.slice Ao6 t233.length co6) : Value).ownBlock) v4 x4_8) ∧ Aside0 (Below w.heap.size w wc))
      case first =>
       have H := HC9.out
       clear HC9
       by_cases c10 : x6_4 = true
       ·subst c10
        have H1 : (pantryref08_Path.j2 kj4 t233 x4_1 x5_1 true) = some r := by rw [if_pos rfl] at H; exact H
        clear H
        have H := H1
        clear H1
        have H' := Aside0.mk H
        clear H
        go_wp2
        go_meet
        case rel => exact ⟨_, (x4_1), H', ⟨by have := HK1.out; have := HJ4.out; first | omega | exact Nat.le_refl _⟩, ⟨by (with_reducible repeat (first | apply Kd.R_alloc | apply Kd.R_drewN | apply Kd.R_drew)); first | exact HO_3.out | exact R_own_len HO_3.out | exact R_own_len2 HO_3.out⟩, ⟨by (with_reducible repeat (first | apply Kd.R_alloc | apply Kd.R_drewN | apply Kd.R_drew)); first | exact HO_4.out | exact R_own_len HO_4.out | exact R_own_len2 HO_4.out⟩, ⟨by repeat (first | (with_reducible first | exact HB.out | apply below_alloc | apply pw_below_drewN | apply below_drew1) | exact HB.out)⟩⟩
       ·replace c10 := Bool.eq_false_iff.mpr c10
        subst c10
        have H1 : (if 0 ≤ x5_1 then (if x5_1 < (t233.length : Int) then (if x4_1.length < 8796093022208 then (pantryref08_Path.j2 kj4 t233 (x4_1 ++ [rdOf ByteArray.empty t233 x5_1]) x5_1 false) else (none)) else (none)) else (none)) = some r := by rw [if_neg (show ¬ (false = true) by decide)] at H; exact H
        clear H
        have H := H1
        clear H1
        by_cases c11 : 0 ≤ x5_1
        ·rw [if_pos c11] at H
         have c11b0 : decide (0 ≤ x5_1) = true := decide_eq_true c11
         clear c11
         (first | rw [c11b0] | (simp only [i64_w, i32_w]; rw [c11b0]) | skip)
         by_cases c12 : x5_1 < (t233.length : Int)
         ·rw [if_pos c12] at H
          have c12b0 : decide (x5_1 < (t233.length : Int)) = true := decide_eq_true c12
          clear c12
          by_cases c13 : x4_1.length < 8796093022208
          ·rw [if_pos c13] at H
           have LMc13 := Aside0.mk c13
           clear c13
           obtain ⟨y239, hy239⟩ : ∃ y_ : List ByteArray, y_ = (x4_1 ++ [rdOf ByteArray.empty t233 x5_1]) := ⟨_, rfl⟩
           replace H : (pantryref08_Path.j2 kj4 t233 y239 x5_1 false) = some r := by first | (rw [hy239]; with_reducible exact H) | (have H2_ := (Option.bind_some _ _).symm.trans H; rw [hy239]; with_reducible exact H2_) | (have H2_ := (Option.bind_some _ _).symm.trans H; with_reducible exact H2_) | with_reducible exact H | (rw [hy239]; exact H) | exact H
           have Ny239 := Aside0.mk hy239
           clear hy239
           have H' := Aside0.mk H
           clear H
           have p238 : 0 ≤ (x5_1 : Int) := of_decide_eq_true (by assumption)
           have q238 : x5_1 < (t233.length : Int) := of_decide_eq_true (by assumption)
           obtain ⟨ad238, e238, hx238_0⟩ := Kd.at_string (Kd.R_reads' HO_3.out).2.2 x5_1 p238 q238
           cases e238
           replace p238 := eq_true p238
           replace q238 := eq_true q238
           go_wp2_with (first | ((with_reducible refine gate_builtin (b := .append) (xs := #[.tmp 31, .tmp 36]) rfl ?_); (try (refine gate_guard (by rfl) ?_; dsimp only)); at_builtin; refine Kd.R_append Kd.string (w0 := w) w.heap.size rfl (.tmp 31) (.tmp 36) 65 9 (.string ⟨#[]⟩) 16 rfl Tryd.underlying65 info9 rfl (by decide) (by omega) u4 x4_1 (rdOf ByteArray.empty t233 x5_1) [.string (rdOf ByteArray.empty t233 x5_1)] (fun k_ => some k_ ≠ (.slice (some ad238) t233.length co6 : Value).ownBlock) (fun _ => False) rfl rfl ?aP (fun _ hk => hk.elim) ?aF ?aO ?aB ?aS ?aL ?_; (case aP => exact rfl); (case aB => exact (by repeat (first | (with_reducible first | exact HB.out | apply below_alloc | apply pw_below_drewN | apply below_drew1) | exact HB.out))); (case aF => exact (fun k_ hk => Kd.fresh' (Kd.R_lt (by (with_reducible repeat (first | apply Kd.R_alloc | apply Kd.R_drewN | apply Kd.R_drew)); exact HO_3.out)) k_ hk)); (case aO => exact (by (with_reducible repeat (first | apply Kd.R_alloc | apply Kd.R_drewN | apply Kd.R_drew)); exact HO_4.out)); (case aS => exact (below_size (by repeat (first | (with_reducible first | exact HB.out | apply below_alloc | apply pw_below_drewN | apply below_drew1) | exact HB.out)))); (case aL => have := LMc13.out; first | omega | (simp only [ByteArray.size, List.size_toArray, List.length_cons, List.length_nil]; omega)); intro v240 w14 ho hb hg hat; rw [← Ny239.out] at ho; have n0_ := Aside0.mk (Kd.R_after (ok := (fun _ => True)) (by (with_reducible repeat (first | apply Kd.R_alloc | apply Kd.R_drewN | apply Kd.R_drew)); first | exact Kd.R_mono HO_3.out (fun _ hk => ⟨trivial, hk⟩) | exact Kd.R_mono HO_3.out (fun _ hk => by rcases hk with ⟨⟨h1_, h2_⟩, h3_⟩; first | exact ⟨⟨by first | exact h1_ | exact h2_ | exact h3_, by first | exact h1_ | exact h2_ | exact h3_⟩, by first | exact h1_ | exact h2_ | exact h3_⟩ | exact ⟨by first | exact h1_ | exact h2_ | exact h3_, ⟨by first | exact h1_ | exact h2_ | exact h3_, by first | exact h1_ | exact h2_ | exact h3_⟩⟩)) hg hat); have n1_ := Aside0.mk (hb); have n2_ := Aside0.mk (ho); clear HO_3; clear HB; clear HO_4; have HO_3 := n0_; have HB := n1_; have HO241 := n2_; clear n0_ n1_ n2_; clear ho hb hg hat))
           go_meet
           case rel => exact ⟨_, (y239), H', ⟨by have := HK1.out; have := HJ4.out; first | omega | exact Nat.le_refl _⟩, ⟨by (with_reducible repeat (first | apply Kd.R_alloc | apply Kd.R_drewN | apply Kd.R_drew)); exact Kd.R_mono HO_3.out (fun _ hk => hk.2)⟩, ⟨by (with_reducible repeat (first | apply Kd.R_alloc | apply Kd.R_drewN | apply Kd.R_drew)); exact HO241.out⟩, ⟨by repeat (first | (with_reducible first | exact HB.out | apply below_alloc | apply pw_below_drewN | apply below_drew1) | exact HB.out)⟩⟩
          ·rw [if_neg c13] at H
           exact absurd H (by simp)
         ·rw [if_neg c12] at H
          exact absurd H (by simp)
        ·rw [if_neg c11] at H
         exact absurd H (by simp)
      case rest =>
       clear HC9
       (try clear c1); (try clear c2); (try clear p2); (try clear q2); (try clear hx2); (try clear c4); (try clear c4b0); (try clear c7); (try clear c7b0); (try clear c8); (try clear c8b0); (try clear c8b1); (try clear c10); (try clear c11); (try clear c11b0); (try clear c12); (try clear c12b0); (try clear c13); (try clear hx236_0); (try clear hx237_0); (try clear hx238_0); (try clear p2); (try clear p236); (try clear p237); (try clear p238); (try clear q2); (try clear q236); (try clear q237); (try clear q238)
       obtain ⟨kq, x4_8, HA, HJ8, HO_3, HO_4, HB⟩ := hcut
       cases kq with
       | zero => exact absurd HA.out (by simp [pantryref08_Path.j2])
       | succ kj8 =>
        have H := HA.out
        clear HA
        simp only [pantryref08_Path.j2] at H
        have HC15 := Aside0.mk H
        clear H
        go_upto_region 9 with (fail)
        go_cut [47] (fun v47 wc => ∃ (kq : Nat) (x47_14 : Bool), v47 = .bool x47_14 ∧ Aside0 (pantryref08_Path.j3 kq t233 x4_8 x5_1 x6_4 x47_14 = some r) ∧ Aside0 (kq ≤ kj8) ∧ Aside0 (Kd.R Kd.string 9 wc w.heap.size (fun k_ => some k_ ≠ (u4 : Value).ownBlock) (.slice Ao6 t233.length co6) t233) ∧ Aside0 (Kd.R Kd.string 9 wc w.heap.size (fun k_ => some k_ ≠ ((.slice Ao6 t233.length co6) : Value).ownBlock) u4 x4_8) ∧ Aside0 (Below w.heap.size w wc))
        case first =>
         have H := HC15.out
         clear HC15
         by_cases c16 : 0 ≤ x5_1
         ·rw [if_pos c16] at H
          have c16b0 : decide (0 ≤ x5_1) = true := decide_eq_true c16
          clear c16
          (first | rw [c16b0] | (simp only [i64_w, i32_w]; rw [c16b0]) | skip)
          by_cases c17 : x5_1 < (t233.length : Int)
          ·rw [if_pos c17] at H
           have c17b0 : decide (x5_1 < (t233.length : Int)) = true := decide_eq_true c17
           clear c17
           by_cases c18 : (rdOf ByteArray.empty t233 x5_1).toList = ([46, 46] : List UInt8)
           ·rw [if_pos c18] at H
            have c18b0 : ((rdOf ByteArray.empty t233 x5_1).toList == ([46, 46] : List UInt8)) = true := beq_iff_eq.mpr c18
            have c18b1 : ((rdOf ByteArray.empty t233 x5_1).toList != ([46, 46] : List UInt8)) = false := bne_eq_false_iff_eq.mpr c18
            clear c18
            have H' := Aside0.mk H
            clear H
            have p242 : 0 ≤ (x5_1 : Int) := of_decide_eq_true (by assumption)
            have q242 : x5_1 < (t233.length : Int) := of_decide_eq_true (by assumption)
            obtain ⟨ad242, e242, hx242_0⟩ := Kd.at_string (Kd.R_reads' HO_3.out).2.2 x5_1 p242 q242
            cases e242
            replace p242 := eq_true p242
            replace q242 := eq_true q242
            obtain ⟨Ao19, co19, eo19⟩ := Kd.R_slice HO_4.out
            subst eo19
            go_wp2
            go_meet
            case rel => exact ⟨_, (decide ((x4_8.length : Int) > 0)), (by first | rfl | (simp; done) | (simp [*]; done) | (simp [ne_nil_B, eq_nil_B]; done)), H', ⟨by have := HK1.out; have := HJ4.out; have := HJ8.out; first | omega | exact Nat.le_refl _⟩, ⟨by (with_reducible repeat (first | apply Kd.R_alloc | apply Kd.R_drewN | apply Kd.R_drew)); first | exact HO_3.out | exact R_own_len HO_3.out | exact R_own_len2 HO_3.out⟩, ⟨by (with_reducible repeat (first | apply Kd.R_alloc | apply Kd.R_drewN | apply Kd.R_drew)); first | exact HO_4.out | exact R_own_len HO_4.out | exact R_own_len2 HO_4.out⟩, ⟨by repeat (first | (with_reducible first | exact HB.out | apply below_alloc | apply pw_below_drewN | apply below_drew1) | exact HB.out)⟩⟩
           ·rw [if_neg c18] at H
            have c18b0 : ((rdOf ByteArray.empty t233 x5_1).toList == ([46, 46] : List UInt8)) = false := beq_eq_false_iff_ne.mpr c18
            have c18b1 : ((rdOf ByteArray.empty t233 x5_1).toList != ([46, 46] : List UInt8)) = true := bne_iff_ne.mpr c18
            have H' := Aside0.mk H
            clear H
            have p242 : 0 ≤ (x5_1 : Int) := of_decide_eq_true (by assumption)
            have q242 : x5_1 < (t233.length : Int) := of_decide_eq_true (by assumption)
            obtain ⟨ad242, e242, hx242_0⟩ := Kd.at_string (Kd.R_reads' HO_3.out).2.2 x5_1 p242 q242
            cases e242
            replace p242 := eq_true p242
            replace q242 := eq_true q242
            go_wp2
            go_meet
            case rel => exact ⟨_, (false), (by first | rfl | (simp; done) | (simp [*]; done) | (simp [ne_nil_B, eq_nil_B]; done)), H', ⟨by have := HK1.out; have := HJ4.out; have := HJ8.out; first | omega | exact Nat.le_refl _⟩, ⟨by (with_reducible repeat (first | apply Kd.R_alloc | apply Kd.R_drewN | apply Kd.R_drew)); first | exact HO_3.out | exact R_own_len HO_3.out | exact R_own_len2 HO_3.out⟩, ⟨by (with_reducible repeat (first | apply Kd.R_alloc | apply Kd.R_drewN | apply Kd.R_drew)); first | exact HO_4.out | exact R_own_len HO_4.out | exact R_own_len2 HO_4.out⟩, ⟨by repeat (first | (with_reducible first | exact HB.out | apply below_alloc | apply pw_below_drewN | apply below_drew1) | exact HB.out)⟩⟩
          ·rw [if_neg c17] at H
           exact absurd H (by simp)
         ·rw [if_neg c16] at H
          exact absurd H (by simp)
        case rest =>
         clear HC15
         (try clear c1); (try clear c2); (try clear p2); (try clear q2); (try clear hx2); (try clear c4); (try clear c4b0); (try clear c7); (try clear c7b0); (try clear c8); (try clear c8b0); (try clear c8b1); (try clear c10); (try clear c11); (try clear c11b0); (try clear c12); (try clear c12b0); (try clear c13); (try clear c16); (try clear c16b0); (try clear c17); (try clear c17b0); (try clear c18); (try clear c18b0); (try clear c18b1); (try clear hx236_0); (try clear hx237_0); (try clear hx238_0); (try clear hx242_0); (try clear p2); (try clear p236); (try clear p237); (try clear p238); (try clear p242); (try clear q2); (try clear q236); (try clear q237); (try clear q238); (try clear q242)
         obtain ⟨kq, x47_14, rfl, HA, HJ14, HO_3, HO_4, HB⟩ := hcut
         cases kq with
         | zero => exact absurd HA.out (by simp [pantryref08_Path.j3])
         | succ kj14 =>
          have H := HA.out
          clear HA
          simp only [pantryref08_Path.j3] at H
          by_cases c20 : x47_14 = true
          ·subst c20
           have H1 : (if 0 ≤ (wrap64 ((x4_8.length : Int) - 1)) then (if (wrap64 ((x4_8.length : Int) - 1)) ≤ (x4_8.length : Int) then ((some (x4_8.take ((wrap64 ((x4_8.length : Int) - 1)) : Int).toNat : List ByteArray)).bind fun y243 => (if x6_4 = true then (if x5_1 = (wrap64 ((t233.length : Int) - 1)) then (if y243.length < 8796093022208 then (pantryref08_Path.l0 kj14 t233 (y243 ++ [(⟨#[]⟩ : ByteArray)]) (wrap64 (x5_1 + 1))) else (none)) else (pantryref08_Path.l0 kj14 t233 y243 (wrap64 (x5_1 + 1)))) else (pantryref08_Path.l0 kj14 t233 y243 (wrap64 (x5_1 + 1))))) else (none)) else (none)) = some r := by rw [if_pos rfl] at H; exact H
           clear H
           have H := H1
           clear H1
           obtain ⟨ji21, hji21⟩ : ∃ j_ : Int, (wrap64 ((x4_8.length : Int) - 1)) = j_ := ⟨_, rfl⟩
           replace H : (if 0 ≤ (ji21) then (if (ji21) ≤ (x4_8.length : Int) then ((some (x4_8.take ((ji21) : Int).toNat : List ByteArray)).bind fun y243 => (if x6_4 = true then (if x5_1 = (wrap64 ((t233.length : Int) - 1)) then (if y243.length < 8796093022208 then (pantryref08_Path.l0 kj14 t233 (y243 ++ [(⟨#[]⟩ : ByteArray)]) (wrap64 (x5_1 + 1))) else (none)) else (pantryref08_Path.l0 kj14 t233 y243 (wrap64 (x5_1 + 1)))) else (pantryref08_Path.l0 kj14 t233 y243 (wrap64 (x5_1 + 1))))) else (none)) else (none)) = some r := by first | (rw [hji21] at H; exact H) | (simp only [hji21] at H ⊢; exact H)
           have hji21w : (IntKind.i64.wrap ((x4_8.length : Int) - 1)) = ji21 := (i64_w _).trans hji21
           by_cases c22 : 0 ≤ (ji21)
           ·rw [if_pos c22] at H
            have c22b0 := eq_true c22
            have c22b1 : decide (0 ≤ (ji21)) = true := decide_eq_true c22
            clear c22
            by_cases c23 : (ji21) ≤ (x4_8.length : Int)
            ·rw [if_pos c23] at H
             have c23b0 := eq_true c23
             have c23b1 : decide ((ji21) ≤ (x4_8.length : Int)) = true := decide_eq_true c23
             clear c23
             obtain ⟨y243, hy243⟩ : ∃ y_ : List ByteArray, y_ = (x4_8.take ((ji21) : Int).toNat) := ⟨_, rfl⟩
             replace H : (if x6_4 = true then (if x5_1 = (wrap64 ((t233.length : Int) - 1)) then (if y243.length < 8796093022208 then (pantryref08_Path.l0 kj14 t233 (y243 ++ [(⟨#[]⟩ : ByteArray)]) (wrap64 (x5_1 + 1))) else (none)) else (pantryref08_Path.l0 kj14 t233 y243 (wrap64 (x5_1 + 1)))) else (pantryref08_Path.l0 kj14 t233 y243 (wrap64 (x5_1 + 1)))) = some r := by first | (rw [hy243]; with_reducible exact H) | (have H2_ := (Option.bind_some _ _).symm.trans H; rw [hy243]; with_reducible exact H2_) | (have H2_ := (Option.bind_some _ _).symm.trans H; with_reducible exact H2_) | with_reducible exact H | (rw [hy243]; exact H) | exact H
             have Ny243 := Aside0.mk hy243
             clear hy243
             by_cases c24 : x6_4 = true
             ·subst c24
              have H1 : (if x5_1 = (wrap64 ((t233.length : Int) - 1)) then (if y243.length < 8796093022208 then (pantryref08_Path.l0 kj14 t233 (y243 ++ [(⟨#[]⟩ : ByteArray)]) (wrap64 (x5_1 + 1))) else (none)) else (pantryref08_Path.l0 kj14 t233 y243 (wrap64 (x5_1 + 1)))) = some r := by rw [if_pos rfl] at H; exact H
              clear H
              have H := H1
              clear H1
              by_cases c25 : x5_1 = (wrap64 ((t233.length : Int) - 1))
              ·rw [if_pos c25] at H
               have c25b0 : (x5_1 == (wrap64 ((t233.length : Int) - 1))) = true := beq_iff_eq.mpr c25
               have c25b1 : (x5_1 != (wrap64 ((t233.length : Int) - 1))) = false := bne_eq_false_iff_eq.mpr c25
               clear c25
               by_cases c26 : y243.length < 8796093022208
               ·rw [if_pos c26] at H
                have LMc26 := Aside0.mk c26
                clear c26
                obtain ⟨y246, hy246⟩ : ∃ y_ : List ByteArray, y_ = (y243 ++ [(⟨#[]⟩ : ByteArray)]) := ⟨_, rfl⟩
                replace H : (pantryref08_Path.l0 kj14 t233 y246 (wrap64 (x5_1 + 1))) = some r := by first | (rw [hy246]; with_reducible exact H) | (have H2_ := (Option.bind_some _ _).symm.trans H; rw [hy246]; with_reducible exact H2_) | (have H2_ := (Option.bind_some _ _).symm.trans H; with_reducible exact H2_) | with_reducible exact H | (rw [hy246]; exact H) | exact H
                have Ny246 := Aside0.mk hy246
                clear hy246
                have H' := Aside0.mk H
                clear H
                obtain ⟨Ao27, co27, eo27⟩ := Kd.R_slice HO_4.out
                subst eo27
                have q28 : ((ji21) : Int) ≤ ((x4_8.length : Int) : Int) := of_decide_eq_true (by assumption)
                obtain ⟨i028, hi028, _, hsz28, _⟩ := info_parts info9
                have hcut28 := cut_to (P := Tryd.prog) 65 9 .i64 Tryd.underlying65 hi028 Ao27 x4_8.length co27 (ji21) (of_decide_eq_true (by assumption)) q28 (Kd.R_reads' HO_4.out).2.1
                have hr28 := Kd.R_take (m := ((ji21) : Int).toNat) HO_4.out (by omega)
                have hy28 : y243.length = ((ji21) : Int).toNat := (by rw [Ny243.out, List.length_take]; omega)
                rw [← Ny243.out] at hr28
                rw [← hy28] at hr28 hcut28
                clear hy28 hi028 hsz28 HO_4
                have HO245 := Aside0.mk hr28
                try (have hz_ := Aside0.mk (R_own_len (A := Ao27) (m := y243.length) (c' := co27) HO_3.out); clear HO_3; have HO_3 := hz_; clear hz_)
                try (have hz_ := Aside0.mk (R_own_len2 (A := Ao27) (m := y243.length) (c' := co27) HO_3.out); clear HO_3; have HO_3 := hz_; clear hz_)
                clear hr28
                replace q28 := eq_true q28
                go_wp2_with (first | ((with_reducible refine gate_builtin (b := .append) (xs := #[.tmp 61, .tmp 62]) rfl ?_); (try (refine gate_guard (by rfl) ?_; dsimp only)); at_builtin; refine Kd.R_append Kd.string (w0 := w) w.heap.size rfl (.tmp 61) (.tmp 62) 65 9 (.string ⟨#[]⟩) 16 rfl Tryd.underlying65 info9 rfl (by decide) (by omega) (.slice Ao27 y243.length co27) y243 (⟨#[]⟩ : ByteArray) [.string (⟨#[]⟩ : ByteArray)] (fun k_ => some k_ ≠ (.slice Ao6 t233.length co6 : Value).ownBlock) (fun _ => False) rfl rfl ?aP (fun _ hk => hk.elim) ?aF ?aO ?aB ?aS ?aL ?_; (case aP => exact rfl); (case aB => exact (by repeat (first | (with_reducible first | exact HB.out | apply below_alloc | apply pw_below_drewN | apply below_drew1) | exact HB.out))); (case aF => exact (fun k_ hk => Kd.fresh' (Kd.R_lt (by (with_reducible repeat (first | apply Kd.R_alloc | apply Kd.R_drewN | apply Kd.R_drew)); exact HO_3.out)) k_ hk)); (case aO => exact (by (with_reducible repeat (first | apply Kd.R_alloc | apply Kd.R_drewN | apply Kd.R_drew)); exact HO245.out)); (case aS => exact (below_size (by repeat (first | (with_reducible first | exact HB.out | apply below_alloc | apply pw_below_drewN | apply below_drew1) | exact HB.out)))); (case aL => have := LMc26.out; first | omega | (simp only [ByteArray.size, List.size_toArray, List.length_cons, List.length_nil]; omega)); intro v247 w29 ho hb hg hat; rw [← Ny246.out] at ho; have n0_ := Aside0.mk (Kd.R_after (ok := (fun _ => True)) (by (with_reducible repeat (first | apply Kd.R_alloc | apply Kd.R_drewN | apply Kd.R_drew)); first | exact Kd.R_mono HO_3.out (fun _ hk => ⟨trivial, hk⟩) | exact Kd.R_mono HO_3.out (fun _ hk => by rcases hk with ⟨⟨h1_, h2_⟩, h3_⟩; first | exact ⟨⟨by first | exact h1_ | exact h2_ | exact h3_, by first | exact h1_ | exact h2_ | exact h3_⟩, by first | exact h1_ | exact h2_ | exact h3_⟩ | exact ⟨by first | exact h1_ | exact h2_ | exact h3_, ⟨by first | exact h1_ | exact h2_ | exact h3_, by first | exact h1_ | exact h2_ | exact h3_⟩⟩)) hg hat); have n1_ := Aside0.mk (hb); have n2_ := Aside0.mk (ho); clear HO_3; clear HB; clear HO245; have HO_3 := n0_; have HB := n1_; have HO248 := n2_; clear n0_ n1_ n2_; clear ho hb hg hat))
                go_roundg kj14
                case measure => have := HK1.out; have := HJ4.out; have := HJ8.out; have := HJ14.out; omega
                case rel => exact ⟨(y246), (wrap64 (x5_1 + 1)), (by first | rfl | (simp; done) | (simp [*]; done) | (simp [ne_nil_B, eq_nil_B]; done)), H', ⟨by have := HK1.out; have := HJ4.out; have := HJ8.out; have := HJ14.out; omega⟩, ⟨by (with_reducible repeat (first | apply Kd.R_alloc | apply Kd.R_drewN | apply Kd.R_drew)); exact Kd.R_mono HO_3.out (fun _ hk => hk.2)⟩, ⟨by (with_reducible repeat (first | apply Kd.R_alloc | apply Kd.R_drewN | apply Kd.R_drew)); exact HO248.out⟩, ⟨by repeat (first | (with_reducible first | exact HB.out | apply below_alloc | apply pw_below_drewN | apply below_drew1) | exact HB.out)⟩⟩
               ·rw [if_neg c26] at H
                exact absurd H (by simp)
              ·rw [if_neg c25] at H
               have c25b0 : (x5_1 == (wrap64 ((t233.length : Int) - 1))) = false := beq_eq_false_iff_ne.mpr c25
               have c25b1 : (x5_1 != (wrap64 ((t233.length : Int) - 1))) = true := bne_iff_ne.mpr c25
               have H' := Aside0.mk H
               clear H
               obtain ⟨Ao30, co30, eo30⟩ := Kd.R_slice HO_4.out
               subst eo30
               have q31 : ((ji21) : Int) ≤ ((x4_8.length : Int) : Int) := of_decide_eq_true (by assumption)
               obtain ⟨i031, hi031, _, hsz31, _⟩ := info_parts info9
               have hcut31 := cut_to (P := Tryd.prog) 65 9 .i64 Tryd.underlying65 hi031 Ao30 x4_8.length co30 (ji21) (of_decide_eq_true (by assumption)) q31 (Kd.R_reads' HO_4.out).2.1
               have hr31 := Kd.R_take (m := ((ji21) : Int).toNat) HO_4.out (by omega)
               have hy31 : y243.length = ((ji21) : Int).toNat := (by rw [Ny243.out, List.length_take]; omega)
               rw [← Ny243.out] at hr31
               rw [← hy31] at hr31 hcut31
               clear hy31 hi031 hsz31 HO_4
               have HO245 := Aside0.mk hr31
               clear hr31
               replace q31 := eq_true q31
               go_wp2
               go_roundg kj14
               case measure => have := HK1.out; have := HJ4.out; have := HJ8.out; have := HJ14.out; omega
               case rel => exact ⟨(y243), (wrap64 (x5_1 + 1)), (by first | rfl | (simp; done) | (simp [*]; done) | (simp [ne_nil_B, eq_nil_B]; done)), H', ⟨by have := HK1.out; have := HJ4.out; have := HJ8.out; have := HJ14.out; omega⟩, ⟨by (with_reducible repeat (first | apply Kd.R_alloc | apply Kd.R_drewN | apply Kd.R_drew)); first | exact HO_3.out | exact R_own_len HO_3.out | exact R_own_len2 HO_3.out⟩, ⟨by (with_reducible repeat (first | apply Kd.R_alloc | apply Kd.R_drewN | apply Kd.R_drew)); exact HO245.out⟩, ⟨by repeat (first | (with_reducible first | exact HB.out | apply below_alloc | apply pw_below_drewN | apply below_drew1) | exact HB.out)⟩⟩
             ·replace c24 := Bool.eq_false_iff.mpr c24
              subst c24
              have H1 : (pantryref08_Path.l0 kj14 t233 y243 (wrap64 (x5_1 + 1))) = some r := by rw [if_neg (show ¬ (false = true) by decide)] at H; exact H
              clear H
              have H := H1
              clear H1
              have H' := Aside0.mk H
              clear H
              obtain ⟨Ao32, co32, eo32⟩ := Kd.R_slice HO_4.out
              subst eo32
              have q33 : ((ji21) : Int) ≤ ((x4_8.length : Int) : Int) := of_decide_eq_true (by assumption)
              obtain ⟨i033, hi033, _, hsz33, _⟩ := info_parts info9
              have hcut33 := cut_to (P := Tryd.prog) 65 9 .i64 Tryd.underlying65 hi033 Ao32 x4_8.length co32 (ji21) (of_decide_eq_true (by assumption)) q33 (Kd.R_reads' HO_4.out).2.1
              have hr33 := Kd.R_take (m := ((ji21) : Int).toNat) HO_4.out (by omega)
              have hy33 : y243.length = ((ji21) : Int).toNat := (by rw [Ny243.out, List.length_take]; omega)
              rw [← Ny243.out] at hr33
              rw [← hy33] at hr33 hcut33
              clear hy33 hi033 hsz33 HO_4
              have HO245 := Aside0.mk hr33
              clear hr33
              replace q33 := eq_true q33
              go_wp2
              go_roundg kj14
              case measure => have := HK1.out; have := HJ4.out; have := HJ8.out; have := HJ14.out; omega
              case rel => exact ⟨(y243), (wrap64 (x5_1 + 1)), (by first | rfl | (simp; done) | (simp [*]; done) | (simp [ne_nil_B, eq_nil_B]; done)), H', ⟨by have := HK1.out; have := HJ4.out; have := HJ8.out; have := HJ14.out; omega⟩, ⟨by (with_reducible repeat (first | apply Kd.R_alloc | apply Kd.R_drewN | apply Kd.R_drew)); first | exact HO_3.out | exact R_own_len HO_3.out | exact R_own_len2 HO_3.out⟩, ⟨by (with_reducible repeat (first | apply Kd.R_alloc | apply Kd.R_drewN | apply Kd.R_drew)); exact HO245.out⟩, ⟨by repeat (first | (with_reducible first | exact HB.out | apply below_alloc | apply pw_below_drewN | apply below_drew1) | exact HB.out)⟩⟩
            ·rw [if_neg c23] at H
             exact absurd H (by simp)
           ·rw [if_neg c22] at H
            exact absurd H (by simp)
          ·replace c20 := Bool.eq_false_iff.mpr c20
           subst c20
           have H1 : (if x6_4 = true then (if x5_1 = (wrap64 ((t233.length : Int) - 1)) then (if x4_8.length < 8796093022208 then (pantryref08_Path.l0 kj14 t233 (x4_8 ++ [(⟨#[]⟩ : ByteArray)]) (wrap64 (x5_1 + 1))) else (none)) else (pantryref08_Path.l0 kj14 t233 x4_8 (wrap64 (x5_1 + 1)))) else (pantryref08_Path.l0 kj14 t233 x4_8 (wrap64 (x5_1 + 1)))) = some r := by rw [if_neg (show ¬ (false = true) by decide)] at H; exact H
           clear H
           have H := H1
           clear H1
           by_cases c34 : x6_4 = true
           ·subst c34
            have H1 : (if x5_1 = (wrap64 ((t233.length : Int) - 1)) then (if x4_8.length < 8796093022208 then (pantryref08_Path.l0 kj14 t233 (x4_8 ++ [(⟨#[]⟩ : ByteArray)]) (wrap64 (x5_1 + 1))) else (none)) else (pantryref08_Path.l0 kj14 t233 x4_8 (wrap64 (x5_1 + 1)))) = some r := by rw [if_pos rfl] at H; exact H
            clear H
            have H := H1
            clear H1
            by_cases c35 : x5_1 = (wrap64 ((t233.length : Int) - 1))
            ·rw [if_pos c35] at H
             have c35b0 : (x5_1 == (wrap64 ((t233.length : Int) - 1))) = true := beq_iff_eq.mpr c35
             have c35b1 : (x5_1 != (wrap64 ((t233.length : Int) - 1))) = false := bne_eq_false_iff_eq.mpr c35
             clear c35
             by_cases c36 : x4_8.length < 8796093022208
             ·rw [if_pos c36] at H
              have LMc36 := Aside0.mk c36
              clear c36
              obtain ⟨y249, hy249⟩ : ∃ y_ : List ByteArray, y_ = (x4_8 ++ [(⟨#[]⟩ : ByteArray)]) := ⟨_, rfl⟩
              replace H : (pantryref08_Path.l0 kj14 t233 y249 (wrap64 (x5_1 + 1))) = some r := by first | (rw [hy249]; with_reducible exact H) | (have H2_ := (Option.bind_some _ _).symm.trans H; rw [hy249]; with_reducible exact H2_) | (have H2_ := (Option.bind_some _ _).symm.trans H; with_reducible exact H2_) | with_reducible exact H | (rw [hy249]; exact H) | exact H
              have Ny249 := Aside0.mk hy249
              clear hy249
              have H' := Aside0.mk H
              clear H
              go_wp2_with (first | ((with_reducible refine gate_builtin (b := .append) (xs := #[.tmp 61, .tmp 62]) rfl ?_); (try (refine gate_guard (by rfl) ?_; dsimp only)); at_builtin; refine Kd.R_append Kd.string (w0 := w) w.heap.size rfl (.tmp 61) (.tmp 62) 65 9 (.string ⟨#[]⟩) 16 rfl Tryd.underlying65 info9 rfl (by decide) (by omega) u4 x4_8 (⟨#[]⟩ : ByteArray) [.string (⟨#[]⟩ : ByteArray)] (fun k_ => some k_ ≠ (.slice Ao6 t233.length co6 : Value).ownBlock) (fun _ => False) rfl rfl ?aP (fun _ hk => hk.elim) ?aF ?aO ?aB ?aS ?aL ?_; (case aP => exact rfl); (case aB => exact (by repeat (first | (with_reducible first | exact HB.out | apply below_alloc | apply pw_below_drewN | apply below_drew1) | exact HB.out))); (case aF => exact (fun k_ hk => Kd.fresh' (Kd.R_lt (by (with_reducible repeat (first | apply Kd.R_alloc | apply Kd.R_drewN | apply Kd.R_drew)); exact HO_3.out)) k_ hk)); (case aO => exact (by (with_reducible repeat (first | apply Kd.R_alloc | apply Kd.R_drewN | apply Kd.R_drew)); exact HO_4.out)); (case aS => exact (below_size (by repeat (first | (with_reducible first | exact HB.out | apply below_alloc | apply pw_below_drewN | apply below_drew1) | exact HB.out)))); (case aL => have := LMc36.out; first | omega | (simp only [ByteArray.size, List.size_toArray, List.length_cons, List.length_nil]; omega)); intro v250 w37 ho hb hg hat; rw [← Ny249.out] at ho; have n0_ := Aside0.mk (Kd.R_after (ok := (fun _ => True)) (by (with_reducible repeat (first | apply Kd.R_alloc | apply Kd.R_drewN | apply Kd.R_drew)); first | exact Kd.R_mono HO_3.out (fun _ hk => ⟨trivial, hk⟩) | exact Kd.R_mono HO_3.out (fun _ hk => by rcases hk with ⟨⟨h1_, h2_⟩, h3_⟩; first | exact ⟨⟨by first | exact h1_ | exact h2_ | exact h3_, by first | exact h1_ | exact h2_ | exact h3_⟩, by first | exact h1_ | exact h2_ | exact h3_⟩ | exact ⟨by first | exact h1_ | exact h2_ | exact h3_, ⟨by first | exact h1_ | exact h2_ | exact h3_, by first | exact h1_ | exact h2_ | exact h3_⟩⟩)) hg hat); have n1_ := Aside0.mk (hb); have n2_ := Aside0.mk (ho); clear HO_3; clear HB; clear HO_4; have HO_3 := n0_; have HB := n1_; have HO251 := n2_; clear n0_ n1_ n2_; clear ho hb hg hat))
              go_roundg kj14
              case measure => have := HK1.out; have := HJ4.out; have := HJ8.out; have := HJ14.out; omega
              case rel => exact ⟨(y249), (wrap64 (x5_1 + 1)), (by first | rfl | (simp; done) | (simp [*]; done) | (simp [ne_nil_B, eq_nil_B]; done)), H', ⟨by have := HK1.out; have := HJ4.out; have := HJ8.out; have := HJ14.out; omega⟩, ⟨by (with_reducible repeat (first | apply Kd.R_alloc | apply Kd.R_drewN | apply Kd.R_drew)); exact Kd.R_mono HO_3.out (fun _ hk => hk.2)⟩, ⟨by (with_reducible repeat (first | apply Kd.R_alloc | apply Kd.R_drewN | apply Kd.R_drew)); exact HO251.out⟩, ⟨by repeat (first | (with_reducible first | exact HB.out | apply below_alloc | apply pw_below_drewN | apply below_drew1) | exact HB.out)⟩⟩
             ·rw [if_neg c36] at H
              exact absurd H (by simp)
            ·rw [if_neg c35] at H
             have c35b0 : (x5_1 == (wrap64 ((t233.length : Int) - 1))) = false := beq_eq_false_iff_ne.mpr c35
             have c35b1 : (x5_1 != (wrap64 ((t233.length : Int) - 1))) = true := bne_iff_ne.mpr c35
             have H' := Aside0.mk H
             clear H
             go_wp2
             go_roundg kj14
             case measure => have := HK1.out; have := HJ4.out; have := HJ8.out; have := HJ14.out; omega
             case rel => exact ⟨(x4_8), (wrap64 (x5_1 + 1)), (by first | rfl | (simp; done) | (simp [*]; done) | (simp [ne_nil_B, eq_nil_B]; done)), H', ⟨by have := HK1.out; have := HJ4.out; have := HJ8.out; have := HJ14.out; omega⟩, ⟨by (with_reducible repeat (first | apply Kd.R_alloc | apply Kd.R_drewN | apply Kd.R_drew)); first | exact HO_3.out | exact R_own_len HO_3.out | exact R_own_len2 HO_3.out⟩, ⟨by (with_reducible repeat (first | apply Kd.R_alloc | apply Kd.R_drewN | apply Kd.R_drew)); first | exact HO_4.out | exact R_own_len HO_4.out | exact R_own_len2 HO_4.out⟩, ⟨by repeat (first | (with_reducible first | exact HB.out | apply below_alloc | apply pw_below_drewN | apply below_drew1) | exact HB.out)⟩⟩
           ·replace c34 := Bool.eq_false_iff.mpr c34
            subst c34
            have H1 : (pantryref08_Path.l0 kj14 t233 x4_8 (wrap64 (x5_1 + 1))) = some r := by rw [if_neg (show ¬ (false = true) by decide)] at H; exact H
            clear H
            have H := H1
            clear H1
            have H' := Aside0.mk H
            clear H
            go_wp2
            go_roundg kj14
            case measure => have := HK1.out; have := HJ4.out; have := HJ8.out; have := HJ14.out; omega
            case rel => exact ⟨(x4_8), (wrap64 (x5_1 + 1)), (by first | rfl | (simp; done) | (simp [*]; done) | (simp [ne_nil_B, eq_nil_B]; done)), H', ⟨by have := HK1.out; have := HJ4.out; have := HJ8.out; have := HJ14.out; omega⟩, ⟨by (with_reducible repeat (first | apply Kd.R_alloc | apply Kd.R_drewN | apply Kd.R_drew)); first | exact HO_3.out | exact R_own_len HO_3.out | exact R_own_len2 HO_3.out⟩, ⟨by (with_reducible repeat (first | apply Kd.R_alloc | apply Kd.R_drewN | apply Kd.R_drew)); first | exact HO_4.out | exact R_own_len HO_4.out | exact R_own_len2 HO_4.out⟩, ⟨by repeat (first | (with_reducible first | exact HB.out | apply below_alloc | apply pw_below_drewN | apply below_drew1) | exact HB.out)⟩⟩
   ·rw [if_neg c4] at H
    have c4b0 : decide (x5_1 < (t233.length : Int)) = false := decide_eq_false c4
    clear c4
    have H' := Aside0.mk H
    clear H
    obtain ⟨Ao38, co38, eo38⟩ := Kd.R_slice HO_3.out
    subst eo38
    go_wp2
    go_loopg [7, 8] k1 (fun kq v7 v8 w' => ∃ (x7_2 : ByteArray) (x8_2 : Int), v7 = .string x7_2 ∧ v8 = .int .i64 x8_2 ∧ Aside0 (pantryref08_Path.l1 kq x4_1 x7_2 x8_2 = some r) ∧ Aside0 (kq ≤ k1) ∧ Aside0 (Kd.R Kd.string 9 w' w.heap.size (fun _ => True) u4 x4_1) ∧ Aside0 (Below w.heap.size w w'))
    case atStart => exact ⟨((⟨#[]⟩ : ByteArray)), (0), (by first | rfl | (simp; done) | (simp [*]; done) | (simp [ne_nil_B, eq_nil_B]; done)), (by first | rfl | (simp; done) | (simp [*]; done) | (simp [ne_nil_B, eq_nil_B]; done)), H', ⟨Nat.le_refl _⟩, ⟨by (with_reducible repeat (first | apply Kd.R_alloc | apply Kd.R_drewN | apply Kd.R_drew)); exact Kd.R_mono HO_4.out (fun _ hk => trivial)⟩, ⟨by repeat (first | (with_reducible first | exact HB.out | apply below_alloc | apply pw_below_drewN | apply below_drew1) | exact HB.out)⟩⟩
    case round =>
     clear H'
     (try clear c1); (try clear c2); (try clear p2); (try clear q2); (try clear hx2); (try clear c3); (try clear q3); (try clear c4); (try clear c4b0); (try clear p6); (try clear c7); (try clear c7b0); (try clear c8); (try clear c8b0); (try clear c8b1); (try clear c10); (try clear c11); (try clear c11b0); (try clear c12); (try clear c12b0); (try clear c13); (try clear c16); (try clear c16b0); (try clear c17); (try clear c17b0); (try clear c18); (try clear c18b0); (try clear c18b1); (try clear c20); (try clear c22); (try clear c22b0); (try clear c22b1); (try clear c23); (try clear c23b0); (try clear c23b1); (try clear p23); (try clear q23); (try clear hx23); (try clear c24); (try clear p24); (try clear q24); (try clear hx24); (try clear c25); (try clear c25b0); (try clear c25b1); (try clear c26); (try clear c27); (try clear q28); (try clear q31); (try clear q33); (try clear c34); (try clear c35); (try clear c35b0); (try clear c35b1); (try clear c36); (try clear hx236_0); (try clear hx237_0); (try clear hx238_0); (try clear hx242_0); (try clear p2); (try clear p236); (try clear p237); (try clear p238); (try clear p242); (try clear q2); (try clear q236); (try clear q237); (try clear q238); (try clear q242); (try clear q28); (try clear q31); (try clear q33)
     obtain ⟨x7_2, x8_2, rfl, rfl, HA, HK2, HO_4, HB⟩ := hrel
     cases gk with
     | zero => exact absurd HA.out (by simp [pantryref08_Path.l1])
     | succ k2 =>
      have H := HA.out
      clear HA
      simp only [pantryref08_Path.l1] at H
      by_cases c39 : x8_2 < (x4_1.length : Int)
      ·rw [if_pos c39] at H
       have c39b0 : decide (x8_2 < (x4_1.length : Int)) = true := decide_eq_true c39
       clear c39
       by_cases c40 : 0 ≤ x8_2
       ·rw [if_pos c40] at H
        have c40b0 : decide (0 ≤ x8_2) = true := decide_eq_true c40
        clear c40
        by_cases c41 : 1 + (rdOf ByteArray.empty x4_1 x8_2).size ≤ 9223372036854775807
        ·rw [if_pos c41] at H
         have c41b0 := eq_true c41
         have c41b1 : decide (1 + (rdOf ByteArray.empty x4_1 x8_2).size ≤ 9223372036854775807) = true := decide_eq_true c41
         try have c41b2 : (9223372036854775807 < 1 + (rdOf ByteArray.empty x4_1 x8_2).size) = False := eq_false (Nat.not_lt.2 c41)
         try (have c41b3 := c41b2; simp only [ByteArray.size_extract, ByteArray.size_append, Nat.min_self, Nat.sub_zero] at c41b3)
         by_cases c42 : x7_2.size + ((⟨#[47]⟩ : ByteArray) ++ (rdOf ByteArray.empty x4_1 x8_2)).size ≤ 9223372036854775807
         ·rw [if_pos c42] at H
          have c42b0 := eq_true c42
          have c42b1 : decide (x7_2.size + ((⟨#[47]⟩ : ByteArray) ++ (rdOf ByteArray.empty x4_1 x8_2)).size ≤ 9223372036854775807) = true := decide_eq_true c42
          try have c42b2 : (9223372036854775807 < x7_2.size + ((⟨#[47]⟩ : ByteArray) ++ (rdOf ByteArray.empty x4_1 x8_2)).size) = False := eq_false (Nat.not_lt.2 c42)
          try (have c42b3 := c42b2; simp only [ByteArray.size_extract, ByteArray.size_append, Nat.min_self, Nat.sub_zero, (show (⟨#[47]⟩ : ByteArray).size = 1 from rfl)] at c42b3)
          have H' := Aside0.mk H
          clear H
          obtain ⟨Ao43, co43, eo43⟩ := Kd.R_slice HO_4.out
          subst eo43
          have p252 : 0 ≤ (x8_2 : Int) := of_decide_eq_true (by assumption)
          have q252 : x8_2 < (x4_1.length : Int) := of_decide_eq_true (by assumption)
          obtain ⟨ad252, e252, hx252_0⟩ := Kd.at_string (Kd.R_reads' HO_4.out).2.2 x8_2 p252 q252
          cases e252
          replace p252 := eq_true p252
          replace q252 := eq_true q252
          go_wp2
          go_roundg k2
          case measure => have := HK1.out; have := HK2.out; omega
          case rel => exact ⟨(x7_2 ++ ((⟨#[47]⟩ : ByteArray) ++ (rdOf ByteArray.empty x4_1 x8_2))), (wrap64 (x8_2 + 1)), (by first | rfl | (simp; done) | (simp [*]; done) | (simp [ne_nil_B, eq_nil_B]; done)), (by first | rfl | (simp; done) | (simp [*]; done) | (simp [ne_nil_B, eq_nil_B]; done)), H', ⟨by have := HK1.out; have := HK2.out; omega⟩, ⟨by (with_reducible repeat (first | apply Kd.R_alloc | apply Kd.R_drewN | apply Kd.R_drew)); first | exact HO_4.out | exact R_own_len HO_4.out | exact R_own_len2 HO_4.out⟩, ⟨by repeat (first | (with_reducible first | exact HB.out | apply below_alloc | apply pw_below_drewN | apply below_drew1) | exact HB.out)⟩⟩
         ·rw [if_neg c42] at H
          exact absurd H (by simp)
        ·rw [if_neg c41] at H
         exact absurd H (by simp)
       ·rw [if_neg c40] at H
        exact absurd H (by simp)
      ·rw [if_neg c39] at H
       have c39b0 : decide (x8_2 < (x4_1.length : Int)) = false := decide_eq_false c39
       clear c39
       by_cases c44 : x7_2.toList = ([] : List UInt8)
       ·rw [if_pos c44] at H
        have c44b0 : (x7_2.toList == ([] : List UInt8)) = true := beq_iff_eq.mpr c44
        have c44b1 : (x7_2.toList != ([] : List UInt8)) = false := bne_eq_false_iff_eq.mpr c44
        clear c44
        obtain rfl := Option.some.inj H
        obtain ⟨Ao45, co45, eo45⟩ := Kd.R_slice HO_4.out
        subst eo45
        go_wp2
        go_ret
        exact ⟨by first | rfl | (simp <;> rfl) | (simp [*] <;> rfl) | (simp [ne_nil_B, eq_nil_B]; done) | (simp [ne_nil_B, eq_nil_B] <;> rfl), by repeat (first | (with_reducible first | exact HB.out | apply below_alloc | apply pw_below_drewN | apply below_drew1) | exact HB.out)⟩
       ·rw [if_neg c44] at H
        have c44b0 : (x7_2.toList == ([] : List UInt8)) = false := beq_eq_false_iff_ne.mpr c44
        have c44b1 : (x7_2.toList != ([] : List UInt8)) = true := bne_iff_ne.mpr c44
        obtain rfl := Option.some.inj H
        obtain ⟨Ao46, co46, eo46⟩ := Kd.R_slice HO_4.out
        subst eo46
        go_wp2
        go_ret
        exact ⟨by first | rfl | (simp <;> rfl) | (simp [*] <;> rfl) | (simp [ne_nil_B, eq_nil_B]; done) | (simp [ne_nil_B, eq_nil_B] <;> rfl), by repeat (first | (with_reducible first | exact HB.out | apply below_alloc | apply pw_below_drewN | apply below_drew1) | exact HB.out)⟩
end Go.Proofs.YtgkgljendffhlaaDoor.P
