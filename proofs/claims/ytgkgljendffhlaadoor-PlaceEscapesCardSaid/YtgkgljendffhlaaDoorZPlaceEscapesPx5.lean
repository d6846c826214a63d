import Derived.Test.YtgkgljendffhlaaDoorZPlaceEscapesPx0
namespace Go.Proofs.YtgkgljendffhlaaDoor.P
open Go.RowKit Go.Proofs.YtgkgljendffhlaaDoorW.PrintWords Go.Proofs.YtgkgljendffhlaaDoorW.PrintLast Go.Proofs.YtgkgljendffhlaaDoorW.PrintMore
attribute [local go_sem] max2_int min2_int max_two min_two max_three min_three max_four min_four u8_div16 u8_mod16
set_option linter.unusedVariables false
set_option linter.unusedSimpArgs false
/-! ### strings_Split: function 42 -/
theorem R_alloc_strs (w : World) (xs : List ByteArray) (e : Nat) (hm : xs.length ≤ 9223372036854775807) : Kd.R Kd.string e (w.alloc (.cells (xs.map Value.string).toArray e)) w.heap.size (fun _ => True) (.slice (some ⟨w.heap.size, 0, none⟩) xs.length xs.length) xs :=
 ⟨fun _ _ => trivial, OwnRow.lit w w.heap.size (Kd.reps_scalar xs) (Nat.le_refl _) hm⟩
def strings_Split.f (a0 a1 : ByteArray) : Option (List ByteArray) :=
 if a0.size < 4294967281 ∧ 1 ≤ a1.size then some (Lib.splitB a1 0 (Lib.countB a0 a1) a0) else none
theorem strings_Split.calls (a0 a1 : ByteArray) (r : List ByteArray) (w : World) (h : strings_Split.f a0 a1 = some r) (hG : GW w := by first | (exact Aside0.out (by assumption)) | (refine GW.via (by assumption) ?_; repeat (first | (exact Aside0.out (by assumption)) | exact Below.refl _ _ | apply below_alloc | apply pw_below_drewN | apply below_drew1 | (refine below_set ?_ (Aside0.out (by assumption)))))) :
  Calls Tryd.prog 42 #[.string a0, .string a1] w fun e w' => ∃ v0_ : Value, e = .returned (v0_) ∧ Kd.R Kd.string 9 w' w.heap.size (fun _ => True) v0_ r ∧ Below w.heap.size w w' := by
 unfold strings_Split.f at h
 split at h
 case isFalse => cases h
 rename_i hs
 have hr := Option.some.inj h
 obtain ⟨m, hm⟩ := (GW.now hG).maxlen
 have hlen : r.length = Lib.countB a0 a1 + 1 := by rw [← hr]; exact Lib.splitB_all a1 hs.2 0 _ a0 rfl
 have hle := Lib.countB_le a1 hs.2 a0.size a0 (Nat.le_refl _)
 refine (Tryd.strings_Split a0 a1 m w hs.1 hm hs.2).mono ?_
 rintro e w' ⟨rfl, rfl⟩
 refine ⟨_, rfl, ?_, below_alloc (Below.refl _ _) _⟩
 rw [hr, ← hlen]
 exact R_alloc_strs w r 9 (by omega)
/-! ### strings_Join: function 43 -/
theorem cell_spot {w : World} {a : Addr} {v : Value} (h : w.cell? a = some v) : a.spot = none := by
 unfold World.cell? at h
 split at h
 ·split at h
  ·cases h
  ·rename_i hs; cases hx : a.spot with
   | none => rfl
   | some s => rw [hx] at hs; exact absurd rfl hs
 ·cases h
def strings_Join.f (l0 : List ByteArray) (a1 : ByteArray) : Option ByteArray :=
 if l0.length ≤ 140737488355328 ∧ (Lib.join (l0.map (·.data.toList)) a1.data.toList).length ≤ 140737488355328 then some ⟨(Lib.join (l0.map (·.data.toList)) a1.data.toList).toArray⟩ else none
theorem strings_Join.calls (A0 : Option Addr) (c0 : Nat) (l0 : List ByteArray) (a1 : ByteArray) (r : ByteArray) (w : World) (hr0 : Kd.C Kd.string w A0 l0.length l0) (hc0 : l0.length ≤ c0) (h : strings_Join.f l0 a1 = some r) :
  Calls Tryd.prog 43 #[.slice A0 l0.length c0, .string a1] w fun e w' => e = .returned (.string r) ∧ Below w.heap.size w w' := by
 unfold strings_Join.f at h
 split at h
 case isFalse => cases h
 rename_i hl
 have hr := Option.some.inj h
 clear h
 rcases Nat.eq_zero_or_pos l0.length with h0 | h0
 ·have : l0 = [] := List.length_eq_zero_iff.1 h0
  subst this
  subst hr
  exact (Tryd.strings_Join_none A0 c0 a1 w).mono fun e w' ⟨he, hw⟩ => ⟨he, hw ▸ Below.refl _ _⟩
 ·obtain ⟨ad, rfl, hc⟩ := Kd.at_string hr0 0 (by omega) (by omega)
  have hsp : ad.spot = none := by
   have := cell_spot hc
   rwa [show ad.add (0 : Int).toNat = ad from rfl] at this
  obtain ⟨bk, o, sp⟩ := ad
  simp only at hsp
  subst hsp
  rw [← hr]
  refine Tryd.strings_Join bk o c0 l0 a1 w (fun j x hx => ?_) (World.block_lt_of_cell? w _ hc) hl.1 hc0 hl.2
  have hj := (List.getElem?_eq_some_iff.1 hx).1
  obtain ⟨ad', he, hcj⟩ := Kd.at_string hr0 (j : Int) (by omega) (by omega)
  obtain rfl := Option.some.inj he
  rw [Int.toNat_natCast] at hcj
  have e1 : rdOf ByteArray.empty l0 (j : Int) = x := by simp [rdOf, List.getD, hx]
  rw [e1] at hcj
  rcases Nat.eq_zero_or_pos j with hz | hz
  ·subst hz; exact hcj
  ·rw [show (⟨bk, o, none⟩ : Addr).add j = ⟨bk, o + j, none⟩ from by simp [Addr.add]; omega] at hcj
   exact hcj
/-! ### place_path: function 22 -/
def place_path.l0 : Nat → List ByteArray → List ByteArray → List ByteArray → Int → Int → Option (ByteArray)
 | 0, _, _, _, _, _ => none
 | k + 1, x3, x4, x10, x11, x12 => if x12 < x11 then (if 0 ≤ x12 then (if x12 < (x10.length : Int) then (if (rdOf ByteArray.empty x10 x12).toList = ([46, 46] : List UInt8) then (if 0 ≤ (mx (wrap64 ((x3.length : Int) - 1)) 0) then (if (mx (wrap64 ((x3.length : Int) - 1)) 0) ≤ (x3.length : Int) then ((some (x3.take ((mx (wrap64 ((x3.length : Int) - 1)) 0) : Int).toNat : List ByteArray)).bind fun y147 => (if x12 = (wrap64 ((x4.length : Int) - 1)) then (if y147.length < 8796093022208 then (place_path.l0 k (y147 ++ [(⟨#[]⟩ : ByteArray)]) x4 x10 x11 (wrap64 (x12 + 1))) else (none)) else (place_path.l0 k y147 x4 x10 x11 (wrap64 (x12 + 1))))) else (none)) else (none)) else (if (rdOf ByteArray.empty x10 x12).toList = ([46] : List UInt8) then (if x12 = (wrap64 ((x4.length : Int) - 1)) then (if x3.length < 8796093022208 then (place_path.l0 k (x3 ++ [(⟨#[]⟩ : ByteArray)]) x4 x10 x11 (wrap64 (x12 + 1))) else (none)) else (place_path.l0 k x3 x4 x10 x11 (wrap64 (x12 + 1)))) else (if x3.length < 8796093022208 then (place_path.l0 k (x3 ++ [rdOf ByteArray.empty x10 x12]) x4 x10 x11 (wrap64 (x12 + 1))) else (none)))) else (none)) else (none)) else ((strings_Join.f x3 (⟨#[47]⟩ : ByteArray)).bind fun t145 => (if 1 + t145.size ≤ 9223372036854775807 then (some ((⟨#[47]⟩ : ByteArray) ++ t145)) else (none)))
def place_path.f (k : Nat) (a0 : ByteArray) : Option (ByteArray) := if 1 ≤ (a0.size : Int) then ((strings_Split.f (a0.extract 1 a0.size) (⟨#[47]⟩ : ByteArray)).bind fun t142 => (place_path.l0 k ([] : List ByteArray) t142 t142 (t142.length : Int) 0)) else (none)
set_option maxHeartbeats 8000000 in
set_option maxRecDepth 100000 in
theorem place_path.calls (k : Nat) (a0 : ByteArray) (r : ByteArray) (w : World) (h : place_path.f k a0 = some r) (hG : GW w := by first | (exact Aside0.out (by assumption)) | (refine GW.via (by assumption) ?_; repeat (first | (exact Aside0.out (by assumption)) | exact Below.refl _ _ | apply below_alloc | apply pw_below_drewN | apply below_drew1 | (refine below_set ?_ (Aside0.out (by assumption)))))) :
  Calls Tryd.prog 22 #[.string a0] w fun e w' => e = .returned (.string r) ∧ Below w.heap.size w w' := by
 have HB := Aside0.mk (Below.refl w.heap.size w)
 have HG := Aside0.mk hG
 clear hG
 have H : (if 1 ≤ (a0.size : Int) then ((strings_Split.f (a0.extract 1 a0.size) (⟨#[47]⟩ : ByteArray)).bind fun t142 => (place_path.l0 k ([] : List ByteArray) t142 t142 (t142.length : Int) 0)) else (none)) = some r := h
 clear h
 by_cases c2 : 1 ≤ (a0.size : Int)
 ·rw [if_pos c2] at H
  have c2b0 := eq_true c2
  have c2b1 : decide (1 ≤ (a0.size : Int)) = true := decide_eq_true c2
  clear c2
  replace H := Option.bind_eq_some_iff.mp H
  obtain ⟨t142, A30, H⟩ := H
  (try dsimp only at H)
  have A3 := Aside0.mk A30
  clear A30
  have H' := Aside0.mk H
  clear H
  go_enter Tryd.func22, Tryd.ntmps22
  go_wp2
  go_step3
  go_wp2_with (first | ((with_reducible refine gate_callee (f := 42) rfl ?_); refine goesL_ (some 9) rfl rfl Tryd.func42 (by kernel_rfl) rfl #[.string (a0.extract 1 a0.size), .string (⟨#[47]⟩ : ByteArray)] rfl (by (try simp only [List.map_toArray, List.map_cons, List.map_nil]); first | done | rfl | (simp only [List.length_drop, List.length_take]; rfl)) ?_; (with_reducible refine (strings_Split.calls (a0.extract 1 a0.size) (⟨#[47]⟩ : ByteArray) t142 _ A3.out).mono ?_); rintro e w4 ⟨v143, rfl, ho0, hb⟩; refine ⟨_, rfl, ?_⟩; have n0_ := Aside0.mk (Kd.R_lower ho0 (below_size (by repeat (first | (with_reducible first | exact HB.out | apply below_alloc | apply pw_below_drewN | apply below_drew1) | exact HB.out)))); have n1_ := Aside0.mk (below_step (by repeat (first | (with_reducible first | exact HB.out | apply below_alloc | apply pw_below_drewN | apply below_drew1) | exact HB.out)) hb); clear HB; have HO144 := n0_; have HB := n1_; clear n0_ n1_; (try clear hb); (try clear hb2); (try clear hk); (try clear hi); (try clear ho0); obtain ⟨Ao5, co5, eo5⟩ := Kd.R_slice HO144.out; subst eo5))
  go_step3
  go_wp2
  go_loopg [3, 12] k (fun kq v3 v12 w' => ∃ (x3_1 : List ByteArray) (x12_1 : Int), v12 = .int .i64 x12_1 ∧ Aside0 (place_path.l0 kq x3_1 t142 t142 (t142.length : Int) x12_1 = some r) ∧ Aside0 (kq ≤ k) ∧ Aside0 (Kd.R Kd.string 9 w' w.heap.size (fun k_ => some k_ ≠ ((.slice Ao5 t142.length co5) : Value).ownBlock ∧ some k_ ≠ ((.slice Ao5 t142.length co5) : Value).ownBlock) v3 x3_1) ∧ Aside0 (Kd.R Kd.string 9 w' w.heap.size (fun k_ => some k_ ≠ (v3 : Value).ownBlock) (.slice Ao5 t142.length co5) t142) ∧ Aside0 (Kd.R Kd.string 9 w' w.heap.size (fun k_ => some k_ ≠ (v3 : Value).ownBlock) (.slice Ao5 t142.length co5) t142) ∧ Aside0 (Below w.heap.size w w'))
  case atStart => exact ⟨(([] : List ByteArray)), (0), (by first | rfl | (simp; done) | (simp [*]; done) | (simp [ne_nil_B, eq_nil_B]; done)), H', ⟨Nat.le_refl _⟩, ⟨by first | exact Kd.R_nil _ _ _ _ _ | exact Kd.N_nil _ _ _ _ _ | exact Kd.V_nil _ _ _ _ _ | exact Kd.Q_nil _ _ _ _ _ | exact Kd.S_nil _ _ _ _ _⟩, ⟨by (with_reducible repeat (first | apply Kd.R_alloc | apply Kd.R_drewN | apply Kd.R_drew)); exact Kd.R_mono HO144.out (fun _ hk => (by simp [Value.ownBlock]))⟩, ⟨by (with_reducible repeat (first | apply Kd.R_alloc | apply Kd.R_drewN | apply Kd.R_drew)); exact Kd.R_mono HO144.out (fun _ hk => (by simp [Value.ownBlock]))⟩, ⟨by repeat (first | (with_reducible first | exact HB.out | apply below_alloc | apply pw_below_drewN | apply below_drew1) | exact HB.out)⟩⟩
  case round =>
   clear H'
   (try clear c2); (try clear c2b0); (try clear c2b1); (try clear p2); (try clear c4)
   obtain ⟨x3_1, x12_1, rfl, HA, HK1, HO_3, HO_4, HO_10, HB⟩ := hrel
   cases gk with
   | zero => exact absurd HA.out (by simp [place_path.l0])
   | succ k1 =>
    have H := HA.out
    clear HA
    simp only [place_path.l0] at H
    by_cases c6 : x12_1 < (t142.length : Int)
    ·rw [if_pos c6] at H
     have c6b0 : decide (x12_1 < (t142.length : Int)) = true := decide_eq_true c6
     clear c6
     by_cases c7 : 0 ≤ x12_1
     ·rw [if_pos c7] at H
      have c7b0 : decide (0 ≤ x12_1) = true := decide_eq_true c7
      clear c7
      by_cases c8 : x12_1 < (t142.length : Int)
      ·rw [if_pos c8] at H
       have c8b0 : decide (x12_1 < (t142.length : Int)) = true := decide_eq_true c8
       clear c8
       by_cases c9 : (rdOf ByteArray.empty t142 x12_1).toList = ([46, 46] : List UInt8)
       ·rw [if_pos c9] at H
        have c9b0 : ((rdOf ByteArray.empty t142 x12_1).toList == ([46, 46] : List UInt8)) = true := beq_iff_eq.mpr c9
        have c9b1 : ((rdOf ByteArray.empty t142 x12_1).toList != ([46, 46] : List UInt8)) = false := bne_eq_false_iff_eq.mpr c9
        clear c9
        obtain ⟨ji10, hji10⟩ : ∃ j_ : Int, (mx (wrap64 ((x3_1.length : Int) - 1)) 0) = j_ := ⟨_, rfl⟩
        replace H : (if 0 ≤ (ji10) then (if (ji10) ≤ (x3_1.length : Int) then ((some (x3_1.take ((ji10) : Int).toNat : List ByteArray)).bind fun y147 => (if x12_1 = (wrap64 ((t142.length : Int) - 1)) then (if y147.length < 8796093022208 then (place_path.l0 k1 (y147 ++ [(⟨#[]⟩ : ByteArray)]) t142 t142 (t142.length : Int) (wrap64 (x12_1 + 1))) else (none)) else (place_path.l0 k1 y147 t142 t142 (t142.length : Int) (wrap64 (x12_1 + 1))))) else (none)) else (none)) = some r := by first | (rw [hji10] at H; exact H) | (simp only [hji10] at H ⊢; exact H)
        have hji10_ : (if (wrap64 ((x3_1.length : Int) - 1)) < 0 then 0 else (wrap64 ((x3_1.length : Int) - 1))) = ji10 := hji10
        by_cases c11 : 0 ≤ (ji10)
        ·rw [if_pos c11] at H
         have c11b0 := eq_true c11
         have c11b1 : decide (0 ≤ (ji10)) = true := decide_eq_true c11
         clear c11
         by_cases c12 : (ji10) ≤ (x3_1.length : Int)
         ·rw [if_pos c12] at H
          have c12b0 := eq_true c12
          have c12b1 : decide ((ji10) ≤ (x3_1.length : Int)) = true := decide_eq_true c12
          clear c12
          obtain ⟨y147, hy147⟩ : ∃ y_ : List ByteArray, y_ = (x3_1.take ((ji10) : Int).toNat) := ⟨_, rfl⟩
          replace H : (if x12_1 = (wrap64 ((t142.length : Int) - 1)) then (if y147.length < 8796093022208 then (place_path.l0 k1 (y147 ++ [(⟨#[]⟩ : ByteArray)]) t142 t142 (t142.length : Int) (wrap64 (x12_1 + 1))) else (none)) else (place_path.l0 k1 y147 t142 t142 (t142.length : Int) (wrap64 (x12_1 + 1)))) = some r := by first | (rw [hy147]; with_reducible exact H) | (have H2_ := (Option.bind_some _ _).symm.trans H; rw [hy147]; with_reducible exact H2_) | (have H2_ := (Option.bind_some _ _).symm.trans H; with_reducible exact H2_) | with_reducible exact H | (rw [hy147]; exact H) | exact H
          have Ny147 := Aside0.mk hy147
          clear hy147
          by_cases c13 : x12_1 = (wrap64 ((t142.length : Int) - 1))
          ·rw [if_pos c13] at H
           have c13b0 : (x12_1 == (wrap64 ((t142.length : Int) - 1))) = true := beq_iff_eq.mpr c13
           have c13b1 : (x12_1 != (wrap64 ((t142.length : Int) - 1))) = false := bne_eq_false_iff_eq.mpr c13
           clear c13
           by_cases c14 : y147.length < 8796093022208
           ·rw [if_pos c14] at H
            have LMc14 := Aside0.mk c14
            clear c14
            obtain ⟨y150, hy150⟩ : ∃ y_ : List ByteArray, y_ = (y147 ++ [(⟨#[]⟩ : ByteArray)]) := ⟨_, rfl⟩
            replace H : (place_path.l0 k1 y150 t142 t142 (t142.length : Int) (wrap64 (x12_1 + 1))) = some r := by first | (rw [hy150]; with_reducible exact H) | (have H2_ := (Option.bind_some _ _).symm.trans H; rw [hy150]; with_reducible exact H2_) | (have H2_ := (Option.bind_some _ _).symm.trans H; with_reducible exact H2_) | with_reducible exact H | (rw [hy150]; exact H) | exact H
            have Ny150 := Aside0.mk hy150
            clear hy150
            have H' := Aside0.mk H
            clear H
            have p146 : 0 ≤ (x12_1 : Int) := of_decide_eq_true (by assumption)
            have q146 : x12_1 < (t142.length : Int) := of_decide_eq_true (by assumption)
            obtain ⟨ad146, e146, hx146_0⟩ := Kd.at_string (Kd.R_reads' HO_10.out).2.2 x12_1 p146 q146
            cases e146
            replace p146 := eq_true p146
            replace q146 := eq_true q146
            obtain ⟨Ao15, co15, eo15⟩ := Kd.R_slice HO_3.out
            subst eo15
            have q16 : ((ji10) : Int) ≤ ((x3_1.length : Int) : Int) := of_decide_eq_true (by assumption)
            obtain ⟨i016, hi016, _, hsz16, _⟩ := info_parts info9
            have hcut16 := cut_to (P := Tryd.prog) 65 9 .i64 Tryd.underlying65 hi016 Ao15 x3_1.length co15 (ji10) (of_decide_eq_true (by assumption)) q16 (Kd.R_reads' HO_3.out).2.1
            have hr16 := Kd.R_take (m := ((ji10) : Int).toNat) HO_3.out (by omega)
            have hy16 : y147.length = ((ji10) : Int).toNat := (by rw [Ny147.out, List.length_take]; omega)
            rw [← Ny147.out] at hr16
            rw [← hy16] at hr16 hcut16
            clear hy16 hi016 hsz16 HO_3
            have HO149 := Aside0.mk hr16
            try (have hz_ := Aside0.mk (R_own_len (A := Ao15) (m := y147.length) (c' := co15) HO_10.out); clear HO_10; have HO_10 := hz_; clear hz_)
            try (have hz_ := Aside0.mk (R_own_len2 (A := Ao15) (m := y147.length) (c' := co15) HO_10.out); clear HO_10; have HO_10 := hz_; clear hz_)
            try (have hz_ := Aside0.mk (R_own_len (A := Ao15) (m := y147.length) (c' := co15) HO_4.out); clear HO_4; have HO_4 := hz_; clear hz_)
            try (have hz_ := Aside0.mk (R_own_len2 (A := Ao15) (m := y147.length) (c' := co15) HO_4.out); clear HO_4; have HO_4 := hz_; clear hz_)
            clear hr16
            replace q16 := eq_true q16
            go_wp2_with (first | ((with_reducible refine gate_builtin (b := .append) (xs := #[.tmp 37, .tmp 38]) rfl ?_); at_builtin; refine Kd.R_append Kd.string (w0 := w) w.heap.size rfl (.tmp 37) (.tmp 38) 65 9 (.string ⟨#[]⟩) 16 rfl Tryd.underlying65 info9 rfl (by decide) (by omega) (.slice Ao15 y147.length co15) y147 (⟨#[]⟩ : ByteArray) [.string (⟨#[]⟩ : ByteArray)] (fun k_ => some k_ ≠ (.slice (some ad146) t142.length co5 : Value).ownBlock ∧ some k_ ≠ (.slice (some ad146) t142.length co5 : Value).ownBlock) (fun _ => False) rfl rfl ?aP (fun _ hk => hk.elim) ?aF ?aO ?aB ?aS ?aL ?_; (case aP => exact rfl); (case aB => exact (by repeat (first | (with_reducible first | exact HB.out | apply below_alloc | apply pw_below_drewN | apply below_drew1) | exact HB.out))); (case aF => exact (fun k_ hk => ⟨Kd.fresh' (Kd.R_lt (by (with_reducible repeat (first | apply Kd.R_alloc | apply Kd.R_drewN | apply Kd.R_drew)); exact HO_4.out)) k_ hk, Kd.fresh' (Kd.R_lt (by (with_reducible repeat (first | apply Kd.R_alloc | apply Kd.R_drewN | apply Kd.R_drew)); exact HO_10.out)) k_ hk⟩)); (case aO => exact (by (with_reducible repeat (first | apply Kd.R_alloc | apply Kd.R_drewN | apply Kd.R_drew)); exact HO149.out)); (case aS => exact (below_size (by repeat (first | (with_reducible first | exact HB.out | apply below_alloc | apply pw_below_drewN | apply below_drew1) | exact HB.out)))); (case aL => have := LMc14.out; first | omega | (simp only [ByteArray.size, List.size_toArray, List.length_cons, List.length_nil]; omega)); intro v151 w17 ho hb hg hat; rw [← Ny150.out] at ho; have n0_ := Aside0.mk (Kd.R_after (ok := (fun _ => True)) (by (with_reducible repeat (first | apply Kd.R_alloc | apply Kd.R_drewN | apply Kd.R_drew)); first | exact Kd.R_mono HO_4.out (fun _ hk => ⟨trivial, hk⟩) | exact Kd.R_mono HO_4.out (fun _ hk => by rcases hk with ⟨⟨h1_, h2_⟩, h3_⟩; first | exact ⟨⟨by first | exact h1_ | exact h2_ | exact h3_, by first | exact h1_ | exact h2_ | exact h3_⟩, by first | exact h1_ | exact h2_ | exact h3_⟩ | exact ⟨by first | exact h1_ | exact h2_ | exact h3_, ⟨by first | exact h1_ | exact h2_ | exact h3_, by first | exact h1_ | exact h2_ | exact h3_⟩⟩)) hg hat); have n1_ := Aside0.mk (Kd.R_after (ok := (fun _ => True)) (by (with_reducible repeat (first | apply Kd.R_alloc | apply Kd.R_drewN | apply Kd.R_drew)); first | exact Kd.R_mono HO_10.out (fun _ hk => ⟨trivial, hk⟩) | exact Kd.R_mono HO_10.out (fun _ hk => by rcases hk with ⟨⟨h1_, h2_⟩, h3_⟩; first | exact ⟨⟨by first | exact h1_ | exact h2_ | exact h3_, by first | exact h1_ | exact h2_ | exact h3_⟩, by first | exact h1_ | exact h2_ | exact h3_⟩ | exact ⟨by first | exact h1_ | exact h2_ | exact h3_, ⟨by first | exact h1_ | exact h2_ | exact h3_, by first | exact h1_ | exact h2_ | exact h3_⟩⟩)) hg hat); have n2_ := Aside0.mk (hb); have n3_ := Aside0.mk (ho); clear HO_4; clear HO_10; clear HB; clear HO149; have HO_4 := n0_; have HO_10 := n1_; have HB := n2_; have HO152 := n3_; clear n0_ n1_ n2_ n3_; clear ho hb hg hat))
            go_roundg k1
            case measure => have := HK1.out; omega
            case rel => exact ⟨(y150), (wrap64 (x12_1 + 1)), (by first | rfl | (simp; done) | (simp [*]; done) | (simp [ne_nil_B, eq_nil_B]; done)), H', ⟨by have := HK1.out; omega⟩, ⟨by (with_reducible repeat (first | apply Kd.R_alloc | apply Kd.R_drewN | apply Kd.R_drew)); exact HO152.out⟩, ⟨by (with_reducible repeat (first | apply Kd.R_alloc | apply Kd.R_drewN | apply Kd.R_drew)); exact Kd.R_mono HO_4.out (fun _ hk => hk.2)⟩, ⟨by (with_reducible repeat (first | apply Kd.R_alloc | apply Kd.R_drewN | apply Kd.R_drew)); exact Kd.R_mono HO_10.out (fun _ hk => hk.2)⟩, ⟨by repeat (first | (with_reducible first | exact HB.out | apply below_alloc | apply pw_below_drewN | apply below_drew1) | exact HB.out)⟩⟩
           ·rw [if_neg c14] at H
            exact absurd H (by simp)
          ·rw [if_neg c13] at H
           have c13b0 : (x12_1 == (wrap64 ((t142.length : Int) - 1))) = false := beq_eq_false_iff_ne.mpr c13
           have c13b1 : (x12_1 != (wrap64 ((t142.length : Int) - 1))) = true := bne_iff_ne.mpr c13
           have H' := Aside0.mk H
           clear H
           have p146 : 0 ≤ (x12_1 : Int) := of_decide_eq_true (by assumption)
           have q146 : x12_1 < (t142.length : Int) := of_decide_eq_true (by assumption)
           obtain ⟨ad146, e146, hx146_0⟩ := Kd.at_string (Kd.R_reads' HO_10.out).2.2 x12_1 p146 q146
           cases e146
           replace p146 := eq_true p146
           replace q146 := eq_true q146
           obtain ⟨Ao18, co18, eo18⟩ := Kd.R_slice HO_3.out
           subst eo18
           have q19 : ((ji10) : Int) ≤ ((x3_1.length : Int) : Int) := of_decide_eq_true (by assumption)
           obtain ⟨i019, hi019, _, hsz19, _⟩ := info_parts info9
           have hcut19 := cut_to (P := Tryd.prog) 65 9 .i64 Tryd.underlying65 hi019 Ao18 x3_1.length co18 (ji10) (of_decide_eq_true (by assumption)) q19 (Kd.R_reads' HO_3.out).2.1
           have hr19 := Kd.R_take (m := ((ji10) : Int).toNat) HO_3.out (by omega)
           have hy19 : y147.length = ((ji10) : Int).toNat := (by rw [Ny147.out, List.length_take]; omega)
           rw [← Ny147.out] at hr19
           rw [← hy19] at hr19 hcut19
           clear hy19 hi019 hsz19 HO_3
           have HO149 := Aside0.mk hr19
           clear hr19
           replace q19 := eq_true q19
           go_wp2
           go_roundg k1
           case measure => have := HK1.out; omega
           case rel => exact ⟨(y147), (wrap64 (x12_1 + 1)), (by first | rfl | (simp; done) | (simp [*]; done) | (simp [ne_nil_B, eq_nil_B]; done)), H', ⟨by have := HK1.out; omega⟩, ⟨by (with_reducible repeat (first | apply Kd.R_alloc | apply Kd.R_drewN | apply Kd.R_drew)); exact HO149.out⟩, ⟨by (with_reducible repeat (first | apply Kd.R_alloc | apply Kd.R_drewN | apply Kd.R_drew)); first | exact HO_4.out | exact R_own_len HO_4.out | exact R_own_len2 HO_4.out⟩, ⟨by (with_reducible repeat (first | apply Kd.R_alloc | apply Kd.R_drewN | apply Kd.R_drew)); first | exact HO_10.out | exact R_own_len HO_10.out | exact R_own_len2 HO_10.out⟩, ⟨by repeat (first | (with_reducible first | exact HB.out | apply below_alloc | apply pw_below_drewN | apply below_drew1) | exact HB.out)⟩⟩
         ·rw [if_neg c12] at H
          exact absurd H (by simp)
        ·rw [if_neg c11] at H
         exact absurd H (by simp)
       ·rw [if_neg c9] at H
        have c9b0 : ((rdOf ByteArray.empty t142 x12_1).toList == ([46, 46] : List UInt8)) = false := beq_eq_false_iff_ne.mpr c9
        have c9b1 : ((rdOf ByteArray.empty t142 x12_1).toList != ([46, 46] : List UInt8)) = true := bne_iff_ne.mpr c9
        by_cases c20 : (rdOf ByteArray.empty t142 x12_1).toList = ([46] : List UInt8)
        ·rw [if_pos c20] at H
         have c20b0 : ((rdOf ByteArray.empty t142 x12_1).toList == ([46] : List UInt8)) = true := beq_iff_eq.mpr c20
         have c20b1 : ((rdOf ByteArray.empty t142 x12_1).toList != ([46] : List UInt8)) = false := bne_eq_false_iff_eq.mpr c20
         clear c20
         by_cases c21 : x12_1 = (wrap64 ((t142.length : Int) - 1))
         ·rw [if_pos c21] at H
          have c21b0 : (x12_1 == (wrap64 ((t142.length : Int) - 1))) = true := beq_iff_eq.mpr c21
          have c21b1 : (x12_1 != (wrap64 ((t142.length : Int) - 1))) = false := bne_eq_false_iff_eq.mpr c21
          clear c21
          by_cases c22 : x3_1.length < 8796093022208
          ·rw [if_pos c22] at H
           have LMc22 := Aside0.mk c22
           clear c22
           obtain ⟨y153, hy153⟩ : ∃ y_ : List ByteArray, y_ = (x3_1 ++ [(⟨#[]⟩ : ByteArray)]) := ⟨_, rfl⟩
           replace H : (place_path.l0 k1 y153 t142 t142 (t142.length : Int) (wrap64 (x12_1 + 1))) = some r := by first | (rw [hy153]; with_reducible exact H) | (have H2_ := (Option.bind_some _ _).symm.trans H; rw [hy153]; with_reducible exact H2_) | (have H2_ := (Option.bind_some _ _).symm.trans H; with_reducible exact H2_) | with_reducible exact H | (rw [hy153]; exact H) | exact H
           have Ny153 := Aside0.mk hy153
           clear hy153
           have H' := Aside0.mk H
           clear H
           have p146 : 0 ≤ (x12_1 : Int) := of_decide_eq_true (by assumption)
           have q146 : x12_1 < (t142.length : Int) := of_decide_eq_true (by assumption)
           obtain ⟨ad146, e146, hx146_0⟩ := Kd.at_string (Kd.R_reads' HO_10.out).2.2 x12_1 p146 q146
           cases e146
           replace p146 := eq_true p146
           replace q146 := eq_true q146
           go_wp2_with (first | ((with_reducible refine gate_builtin (b := .append) (xs := #[.tmp 37, .tmp 38]) rfl ?_); at_builtin; refine Kd.R_append Kd.string (w0 := w) w.heap.size rfl (.tmp 37) (.tmp 38) 65 9 (.string ⟨#[]⟩) 16 rfl Tryd.underlying65 info9 rfl (by decide) (by omega) u3 x3_1 (⟨#[]⟩ : ByteArray) [.string (⟨#[]⟩ : ByteArray)] (fun k_ => some k_ ≠ (.slice (some ad146) t142.length co5 : Value).ownBlock ∧ some k_ ≠ (.slice (some ad146) t142.length co5 : Value).ownBlock) (fun _ => False) rfl rfl ?aP (fun _ hk => hk.elim) ?aF ?aO ?aB ?aS ?aL ?_; (case aP => exact rfl); (case aB => exact (by repeat (first | (with_reducible first | exact HB.out | apply below_alloc | apply pw_below_drewN | apply below_drew1) | exact HB.out))); (case aF => exact (fun k_ hk => ⟨Kd.fresh' (Kd.R_lt (by (with_reducible repeat (first | apply Kd.R_alloc | apply Kd.R_drewN | apply Kd.R_drew)); exact HO_4.out)) k_ hk, Kd.fresh' (Kd.R_lt (by (with_reducible repeat (first | apply Kd.R_alloc | apply Kd.R_drewN | apply Kd.R_drew)); exact HO_10.out)) k_ hk⟩)); (case aO => exact (by (with_reducible repeat (first | apply Kd.R_alloc | apply Kd.R_drewN | apply Kd.R_drew)); exact HO_3.out)); (case aS => exact (below_size (by repeat (first | (with_reducible first | exact HB.out | apply below_alloc | apply pw_below_drewN | apply below_drew1) | exact HB.out)))); (case aL => have := LMc22.out; first | omega | (simp only [ByteArray.size, List.size_toArray, List.length_cons, List.length_nil]; omega)); intro v154 w23 ho hb hg hat; rw [← Ny153.out] at ho; have n0_ := Aside0.mk (Kd.R_after (ok := (fun _ => True)) (by (with_reducible repeat (first | apply Kd.R_alloc | apply Kd.R_drewN | apply Kd.R_drew)); first | exact Kd.R_mono HO_4.out (fun _ hk => ⟨trivial, hk⟩) | exact Kd.R_mono HO_4.out (fun _ hk => by rcases hk with ⟨⟨h1_, h2_⟩, h3_⟩; first | exact ⟨⟨by first | exact h1_ | exact h2_ | exact h3_, by first | exact h1_ | exact h2_ | exact h3_⟩, by first | exact h1_ | exact h2_ | exact h3_⟩ | exact ⟨by first | exact h1_ | exact h2_ | exact h3_, ⟨by first | exact h1_ | exact h2_ | exact h3_, by first | exact h1_ | exact h2_ | exact h3_⟩⟩)) hg hat); have n1_ := Aside0.mk (Kd.R_after (ok := (fun _ => True)) (by (with_reducible repeat (first | apply Kd.R_alloc | apply Kd.R_drewN | apply Kd.R_drew)); first | exact Kd.R_mono HO_10.out (fun _ hk => ⟨trivial, hk⟩) | exact Kd.R_mono HO_10.out (fun _ hk => by rcases hk with ⟨⟨h1_, h2_⟩, h3_⟩; first | exact ⟨⟨by first | exact h1_ | exact h2_ | exact h3_, by first | exact h1_ | exact h2_ | exact h3_⟩, by first | exact h1_ | exact h2_ | exact h3_⟩ | exact ⟨by first | exact h1_ | exact h2_ | exact h3_, ⟨by first | exact h1_ | exact h2_ | exact h3_, by first | exact h1_ | exact h2_ | exact h3_⟩⟩)) hg hat); have n2_ := Aside0.mk (hb); have n3_ := Aside0.mk (ho); clear HO_4; clear HO_10; clear HB; clear HO_3; have HO_4 := n0_; have HO_10 := n1_; have HB := n2_; have HO155 := n3_; clear n0_ n1_ n2_ n3_; clear ho hb hg hat))
           go_roundg k1
           case measure => have := HK1.out; omega
           case rel => exact ⟨(y153), (wrap64 (x12_1 + 1)), (by first | rfl | (simp; done) | (simp [*]; done) | (simp [ne_nil_B, eq_nil_B]; done)), H', ⟨by have := HK1.out; omega⟩, ⟨by (with_reducible repeat (first | apply Kd.R_alloc | apply Kd.R_drewN | apply Kd.R_drew)); exact HO155.out⟩, ⟨by (with_reducible repeat (first | apply Kd.R_alloc | apply Kd.R_drewN | apply Kd.R_drew)); exact Kd.R_mono HO_4.out (fun _ hk => hk.2)⟩, ⟨by (with_reducible repeat (first | apply Kd.R_alloc | apply Kd.R_drewN | apply Kd.R_drew)); exact Kd.R_mono HO_10.out (fun _ hk => hk.2)⟩, ⟨by repeat (first | (with_reducible first | exact HB.out | apply below_alloc | apply pw_below_drewN | apply below_drew1) | exact HB.out)⟩⟩
          ·rw [if_neg c22] at H
           exact absurd H (by simp)
         ·rw [if_neg c21] at H
          have c21b0 : (x12_1 == (wrap64 ((t142.length : Int) - 1))) = false := beq_eq_false_iff_ne.mpr c21
          have c21b1 : (x12_1 != (wrap64 ((t142.length : Int) - 1))) = true := bne_iff_ne.mpr c21
          have H' := Aside0.mk H
          clear H
          have p146 : 0 ≤ (x12_1 : Int) := of_decide_eq_true (by assumption)
          have q146 : x12_1 < (t142.length : Int) := of_decide_eq_true (by assumption)
          obtain ⟨ad146, e146, hx146_0⟩ := Kd.at_string (Kd.R_reads' HO_10.out).2.2 x12_1 p146 q146
          cases e146
          replace p146 := eq_true p146
          replace q146 := eq_true q146
          go_wp2
          go_roundg k1
          case measure => have := HK1.out; omega
          case rel => exact ⟨(x3_1), (wrap64 (x12_1 + 1)), (by first | rfl | (simp; done) | (simp [*]; done) | (simp [ne_nil_B, eq_nil_B]; done)), H', ⟨by have := HK1.out; omega⟩, ⟨by (with_reducible repeat (first | apply Kd.R_alloc | apply Kd.R_drewN | apply Kd.R_drew)); first | exact HO_3.out | exact R_own_len HO_3.out | exact R_own_len2 HO_3.out⟩, ⟨by (with_reducible repeat (first | apply Kd.R_alloc | apply Kd.R_drewN | apply Kd.R_drew)); first | exact HO_4.out | exact R_own_len HO_4.out | exact R_own_len2 HO_4.out⟩, ⟨by (with_reducible repeat (first | apply Kd.R_alloc | apply Kd.R_drewN | apply Kd.R_drew)); first | exact HO_10.out | exact R_own_len HO_10.out | exact R_own_len2 HO_10.out⟩, ⟨by repeat (first | (with_reducible first | exact HB.out | apply below_alloc | apply pw_below_drewN | apply below_drew1) | exact HB.out)⟩⟩
        ·rw [if_neg c20] at H
         have c20b0 : ((rdOf ByteArray.empty t142 x12_1).toList == ([46] : List UInt8)) = false := beq_eq_false_iff_ne.mpr c20
         have c20b1 : ((rdOf ByteArray.empty t142 x12_1).toList != ([46] : List UInt8)) = true := bne_iff_ne.mpr c20
         by_cases c24 : x3_1.length < 8796093022208
         ·rw [if_pos c24] at H
          have LMc24 := Aside0.mk c24
          clear c24
          obtain ⟨y156, hy156⟩ : ∃ y_ : List ByteArray, y_ = (x3_1 ++ [rdOf ByteArray.empty t142 x12_1]) := ⟨_, rfl⟩
          replace H : (place_path.l0 k1 y156 t142 t142 (t142.length : Int) (wrap64 (x12_1 + 1))) = some r := by first | (rw [hy156]; with_reducible exact H) | (have H2_ := (Option.bind_some _ _).symm.trans H; rw [hy156]; with_reducible exact H2_) | (have H2_ := (Option.bind_some _ _).symm.trans H; with_reducible exact H2_) | with_reducible exact H | (rw [hy156]; exact H) | exact H
          have Ny156 := Aside0.mk hy156
          clear hy156
          have H' := Aside0.mk H
          clear H
          have p146 : 0 ≤ (x12_1 : Int) := of_decide_eq_true (by assumption)
          have q146 : x12_1 < (t142.length : Int) := of_decide_eq_true (by assumption)
          obtain ⟨ad146, e146, hx146_0⟩ := Kd.at_string (Kd.R_reads' HO_10.out).2.2 x12_1 p146 q146
          cases e146
          replace p146 := eq_true p146
          replace q146 := eq_true q146
          go_wp2_with (first | ((with_reducible refine gate_builtin (b := .append) (xs := #[.tmp 18, .tmp 20]) rfl ?_); at_builtin; refine Kd.R_append Kd.string (w0 := w) w.heap.size rfl (.tmp 18) (.tmp 20) 65 9 (.string ⟨#[]⟩) 16 rfl Tryd.underlying65 info9 rfl (by decide) (by omega) u3 x3_1 (rdOf ByteArray.empty t142 x12_1) [.string (rdOf ByteArray.empty t142 x12_1)] (fun k_ => some k_ ≠ (.slice (some ad146) t142.length co5 : Value).ownBlock ∧ some k_ ≠ (.slice (some ad146) t142.length co5 : Value).ownBlock) (fun _ => False) rfl rfl ?aP (fun _ hk => hk.elim) ?aF ?aO ?aB ?aS ?aL ?_; (case aP => exact rfl); (case aB => exact (by repeat (first | (with_reducible first | exact HB.out | apply below_alloc | apply pw_below_drewN | apply below_drew1) | exact HB.out))); (case aF => exact (fun k_ hk => ⟨Kd.fresh' (Kd.R_lt (by (with_reducible repeat (first | apply Kd.R_alloc | apply Kd.R_drewN | apply Kd.R_drew)); exact HO_4.out)) k_ hk, Kd.fresh' (Kd.R_lt (by (with_reducible repeat (first | apply Kd.R_alloc | apply Kd.R_drewN | apply Kd.R_drew)); exact HO_10.out)) k_ hk⟩)); (case aO => exact (by (with_reducible repeat (first | apply Kd.R_alloc | apply Kd.R_drewN | apply Kd.R_drew)); exact HO_3.out)); (case aS => exact (below_size (by repeat (first | (with_reducible first | exact HB.out | apply below_alloc | apply pw_below_drewN | apply below_drew1) | exact HB.out)))); (case aL => have := LMc24.out; first | omega | (simp only [ByteArray.size, List.size_toArray, List.length_cons, List.length_nil]; omega)); intro v157 w25 ho hb hg hat; rw [← Ny156.out] at ho; have n0_ := Aside0.mk (Kd.R_after (ok := (fun _ => True)) (by (with_reducible repeat (first | apply Kd.R_alloc | apply Kd.R_drewN | apply Kd.R_drew)); first | exact Kd.R_mono HO_4.out (fun _ hk => ⟨trivial, hk⟩) | exact Kd.R_mono HO_4.out (fun _ hk => by rcases hk with ⟨⟨h1_, h2_⟩, h3_⟩; first | exact ⟨⟨by first | exact h1_ | exact h2_ | exact h3_, by first | exact h1_ | exact h2_ | exact h3_⟩, by first | exact h1_ | exact h2_ | exact h3_⟩ | exact ⟨by first | exact h1_ | exact h2_ | exact h3_, ⟨by first | exact h1_ | exact h2_ | exact h3_, by first | exact h1_ | exact h2_ | exact h3_⟩⟩)) hg hat); have n1_ := Aside0.mk (Kd.R_after (ok := (fun _ => True)) (by (with_reducible repeat (first | apply Kd.R_alloc | apply Kd.R_drewN | apply Kd.R_drew)); first | exact Kd.R_mono HO_10.out (fun _ hk => ⟨trivial, hk⟩) | exact Kd.R_mono HO_10.out (fun _ hk => by rcases hk with ⟨⟨h1_, h2_⟩, h3_⟩; first | exact ⟨⟨by first | exact h1_ | exact h2_ | exact h3_, by first | exact h1_ | exact h2_ | exact h3_⟩, by first | exact h1_ | exact h2_ | exact h3_⟩ | exact ⟨by first | exact h1_ | exact h2_ | exact h3_, ⟨by first | exact h1_ | exact h2_ | exact h3_, by first | exact h1_ | exact h2_ | exact h3_⟩⟩)) hg hat); have n2_ := Aside0.mk (hb); have n3_ := Aside0.mk (ho); clear HO_4; clear HO_10; clear HB; clear HO_3; have HO_4 := n0_; have HO_10 := n1_; have HB := n2_; have HO158 := n3_; clear n0_ n1_ n2_ n3_; clear ho hb hg hat))
          go_roundg k1
          case measure => have := HK1.out; omega
          case rel => exact ⟨(y156), (wrap64 (x12_1 + 1)), (by first | rfl | (simp; done) | (simp [*]; done) | (simp [ne_nil_B, eq_nil_B]; done)), H', ⟨by have := HK1.out; omega⟩, ⟨by (with_reducible repeat (first | apply Kd.R_alloc | apply Kd.R_drewN | apply Kd.R_drew)); exact HO158.out⟩, ⟨by (with_reducible repeat (first | apply Kd.R_alloc | apply Kd.R_drewN | apply Kd.R_drew)); exact Kd.R_mono HO_4.out (fun _ hk => hk.2)⟩, ⟨by (with_reducible repeat (first | apply Kd.R_alloc | apply Kd.R_drewN | apply Kd.R_drew)); exact Kd.R_mono HO_10.out (fun _ hk => hk.2)⟩, ⟨by repeat (first | (with_reducible first | exact HB.out | apply below_alloc | apply pw_below_drewN | apply below_drew1) | exact HB.out)⟩⟩
         ·rw [if_neg c24] at H
          exact absurd H (by simp)
      ·rw [if_neg c8] at H
       exact absurd H (by simp)
     ·rw [if_neg c7] at H
      exact absurd H (by simp)
    ·rw [if_neg c6] at H
     have c6b0 : decide (x12_1 < (t142.length : Int)) = false := decide_eq_false c6
     clear c6
     replace H := Option.bind_eq_some_iff.mp H
     obtain ⟨t145, A260, H⟩ := H
     (try dsimp only at H)
     have A26 := Aside0.mk A260
     clear A260
     by_cases c27 : 1 + t145.size ≤ 9223372036854775807
     ·rw [if_pos c27] at H
      have c27b0 := eq_true c27
      have c27b1 : decide (1 + t145.size ≤ 9223372036854775807) = true := decide_eq_true c27
      try have c27b2 : (9223372036854775807 < 1 + t145.size) = False := eq_false (Nat.not_lt.2 c27)
      try (have c27b3 := c27b2; simp only [ByteArray.size_extract, ByteArray.size_append, Nat.min_self, Nat.sub_zero] at c27b3)
      obtain rfl := Option.some.inj H
      obtain ⟨Ao28, co28, eo28⟩ := Kd.R_slice HO_3.out
      subst eo28
      go_wp2_with (first | ((with_reducible refine gate_callee (f := 43) rfl ?_); refine goesL_ (some 42) rfl rfl Tryd.func43 (by kernel_rfl) rfl #[.slice Ao28 x3_1.length co28, .string (⟨#[47]⟩ : ByteArray)] rfl (by (try simp only [List.map_toArray, List.map_cons, List.map_nil]); first | done | rfl | (simp only [List.length_drop, List.length_take]; rfl)) ?_; (with_reducible refine (strings_Join.calls _ _ x3_1 (⟨#[47]⟩ : ByteArray) t145 _ ?side1 ?side2 A26.out).mono ?_); (case side1 => repeat (first | exact (Kd.R_reads' HO_3.out).2.2 | (with_reducible refine Kd.C_alloc ?_ _) | (with_reducible refine Kd.C_drewN ?_ _) | (with_reducible refine Kd.C_drew ?_))); (case side2 => exact (Kd.R_reads' HO_3.out).2.1); rintro e w29 ⟨rfl, hb⟩; refine ⟨_, rfl, ?_⟩; have n0_ := Aside0.mk (Kd.R_below (by (with_reducible repeat (first | apply Kd.R_alloc | apply Kd.R_drewN | apply Kd.R_drew)); exact HO_3.out) hb); have n1_ := Aside0.mk (Kd.R_below (by (with_reducible repeat (first | apply Kd.R_alloc | apply Kd.R_drewN | apply Kd.R_drew)); exact HO_4.out) hb); have n2_ := Aside0.mk (Kd.R_below (by (with_reducible repeat (first | apply Kd.R_alloc | apply Kd.R_drewN | apply Kd.R_drew)); exact HO_10.out) hb); have n3_ := Aside0.mk (below_step (by repeat (first | (with_reducible first | exact HB.out | apply below_alloc | apply pw_below_drewN | apply below_drew1) | exact HB.out)) hb); clear HO_3; clear HO_4; clear HO_10; clear HB; have HO_3 := n0_; have HO_4 := n1_; have HO_10 := n2_; have HB := n3_; clear n0_ n1_ n2_ n3_; (try clear hb); (try clear hb2); (try clear hk); (try clear hi)))
      first | go_ret | (rw [Exit.noGoto_ret]; go_ret) | (rw [Exit.noGoto_ret]; go_simp; go_ret)
      exact ⟨by first | rfl | (simp <;> rfl) | (simp [*] <;> rfl) | (simp [ne_nil_B, eq_nil_B]; done) | (simp [ne_nil_B, eq_nil_B] <;> rfl), by repeat (first | (with_reducible first | exact HB.out | apply below_alloc | apply pw_below_drewN | apply below_drew1) | exact HB.out)⟩
     ·rw [if_neg c27] at H
      exact absurd H (by simp)
 ·rw [if_neg c2] at H
  exact absurd H (by simp)
end Go.Proofs.YtgkgljendffhlaaDoor.P
