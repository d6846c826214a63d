import Derived.Test.YtodfjcmjoogcgaaDoorZBodyFramesPx0
import Derived.Test.YtodfjcmjoogcgaaDoorZBodyFramesPx3
namespace Go.Proofs.YtodfjcmjoogcgaaDoor.P
open Go.RowKit Go.Proofs.YtodfjcmjoogcgaaDoorW.PrintWords Go.Proofs.YtodfjcmjoogcgaaDoorW.PrintLast Go.Proofs.YtodfjcmjoogcgaaDoorW.PrintMore
attribute [local go_sem] max2_int min2_int max_two min_two max_three min_three max_four min_four   -- for this text's walks alone
set_option linter.unusedVariables false
set_option linter.unusedSimpArgs false
/-! ### body_reader_chunks: function 24 -/
section
attribute [-go_sem] max2_int min2_int max_two min_two max_three min_three max_four min_four
theorem R_keepS {w0 W W1 : World} {g : Nat} {f0 : List Int} {f1 f2 : Int} {v : Value} {xs : List Int} (hI : IsS67 w0 W g f0 f1 f2) (ho : Kd.R (Kd.int .u8) 5 W w0.heap.size (fun _ => True) v xs) (hk : KeepBut W W1 g none) : Kd.R (Kd.int .u8) 5 W1 w0.heap.size (fun _ => True) v xs := by
 refine Kd.R_mono (Kd.R_keep (Kd.R_bound ho) hk ?_) (fun _ _ => trivial)
 rintro k ⟨_, _, _, q, hq, cs, hc⟩ rfl
 obtain ⟨A0, c0, HG, _, _⟩ := hI
 rw [HG] at hc
 injection hc with hc
 injection hc with h1 h2
 subst h2
 revert hq
 decide
theorem R_far {w0 W : World} {g : Nat} {f0 : List Int} {f1 f2 : Int} {v : Value} {xs : List Int} {j : Nat} {u : Value} (hI : IsS67 w0 W g f0 f1 f2) (ho : Kd.R (Kd.int .u8) 5 W w0.heap.size (fun _ => True) v xs) (x : Unit) : Kd.R (Kd.int .u8) 5 (W.setCell ⟨g, j, none⟩ u) w0.heap.size (fun _ => True) v xs :=
 R_keepS hI ho (KeepBut.set_ (KeepBut.refl W g none) _ _)
def body_reader_chunks.l : Nat → List Int → List Int → Int → Int → Option (List Int × Int × Int)
 | 0, _, _, _, _ => none
 | k + 1, s, out, at_, e =>
  if e = 0 then
   (body_reader_size.f s at_ 0).bind fun p =>
    if p.2.2 = 0 then
     if p.1 > wrap64 (2048 - (out.length : Int)) then body_reader_chunks.l k s out p.2.1 23
     else if p.1 = 0 then (body_reader_line.f 6 s p.2.1 0).bind fun q => some (out, q.1, q.2)
     else if 0 < p.1 ∧ 0 ≤ p.2.1 ∧ p.2.1 ≤ (s.length : Int) ∧ (s.length : Int) < 140737488350000 ∧ out.length ≤ 2048 then
      (body_reader_line.f 6 s (wrap64 (p.2.1 + min p.1 (wrap64 ((s.length : Int) - p.2.1)))) (if min p.1 (wrap64 ((s.length : Int) - p.2.1)) < p.1 then 20 else 0)).bind fun q =>
       body_reader_chunks.l k s (out ++ (s.drop p.2.1.toNat).take (min p.1 (wrap64 ((s.length : Int) - p.2.1))).toNat) q.1 q.2
     else none
    else body_reader_chunks.l k s out p.2.1 p.2.2
  else some (out, at_, e)
def body_reader_chunks.f (s : List Int) (at_ e : Int) : Option (List Int × Int × Int) := body_reader_chunks.l (s.length + 3) s [] at_ e
set_option maxHeartbeats 8000000 in
set_option maxRecDepth 100000 in
theorem body_reader_chunks.calls (g : Nat) (s0_0 : List Int) (s0_1 : Int) (s0_2 : Int) (r1 : List Int) (r2 : Int) (r3 : Int) (w0 w : World) (hI : IsS67 w0 w g s0_0 s0_1 s0_2) (hB : Below w0.heap.size w0 w) (h : body_reader_chunks.f s0_0 s0_1 s0_2 = some (r1, r2, r3)) :
  Calls Tryd.prog 24 #[.pointer (some ⟨g, 0, none⟩)] w fun e w' => ∃ v0_ : Value, e = .returned v0_ ∧ Kd.R (Kd.int .u8) 5 w' w0.heap.size (fun _ => True) v0_ r1 ∧ IsS67 w0 w' g s0_0 r2 r3 ∧ Below w0.heap.size w0 w' := by
 have HI0 := Aside0.mk hI
 have HB := Aside0.mk hB
 clear hI hB
 unfold body_reader_chunks.f at h
 have H' := Aside0.mk h
 clear h
 go_enter Tryd.func24, Tryd.ntmps24
 go_wp2
 repeat (go_quiet (fail); try go_wp2)
 generalize hkk : s0_0.length + 3 = kf at *
 clear hkk
 go_loopg [3] kf (fun kq v3 w' => ∃ (out : List Int) (at_ e_ : Int), Aside0 (Kd.R (Kd.int .u8) 5 w' w0.heap.size (fun _ => True) v3 out) ∧ Aside0 (body_reader_chunks.l kq s0_0 out at_ e_ = some (r1, r2, r3)) ∧ Aside0 (IsS67 w0 w' g s0_0 at_ e_) ∧ Aside0 (Below w0.heap.size w0 w'))
 case atStart => exact ⟨[], _, _, ⟨Kd.R_nil _ _ _ _ _⟩, H', HI0, HB⟩
 case round =>
  clear H' HI0 HB
  obtain ⟨out, at_, e_, HO, HA, HI0, HB⟩ := hrel
  cases gk with
  | zero => exact absurd HA.out (by simp [body_reader_chunks.l])
  | succ k1 =>
   have H := HA.out
   clear HA
   simp only [body_reader_chunks.l] at H
   obtain ⟨Ao, co, eo⟩ := Kd.R_slice HO.out
   subst eo
   obtain ⟨A0, c0, HG, hge, HS⟩ := HI0.out
   have hc2 := cellS67_2 HG
   clear HG hge HS
   by_cases he : e_ = 0
   ·subst he
    rw [if_pos rfl] at H
    replace H := Option.bind_eq_some_iff.mp H
    obtain ⟨⟨nn, at1, e1⟩, AL0, H⟩ := H
    have AL := Aside0.mk AL0
    clear AL0
    simp only at H
    by_cases h1 : e1 = 0
    ·subst h1
     rw [if_pos rfl] at H
     by_cases h2 : nn > wrap64 (2048 - (out.length : Int))
     ·rw [if_pos h2] at H
      have h2b : decide (nn > wrap64 (2048 - (out.length : Int))) = true := decide_eq_true h2
      clear h2
      have HX := Aside0.mk H
      clear H
      go_wp2_with (go_at_call 31; (with_reducible refine (body_reader_size.calls g s0_0 at_ 0 nn at1 0 w0 _ ?side1 ?side2 AL.out).mono ?_); (case side1 => exact HI0.out); (case side2 => exact HB.out); rintro e w9 ⟨rfl, hi, hb, hk⟩; have n1_ := Aside0.mk hi; have n2_ := Aside0.mk hb; have n3_ := Aside0.mk (R_keepS HI0.out HO.out hk); clear hc2 hi hb hk HI0 HB HO; have HI0 := n1_; have HB := n2_; have HO := n3_; clear n1_ n2_ n3_; obtain ⟨A0, c0, HG, hge, HS⟩ := HI0.out; have hc0 := cellS67_0 HG; have hc1 := cellS67_1 HG; have hc2 := cellS67_2 HG; have hfz1 := blk_frozen HG 1; have hfz2 := blk_frozen HG 2; have HS := Aside0.mk HS; have hcc := hge.2; have HGB := Aside0.mk HG; clear HG hge; have HS2 := Aside0.mk hcc)
      go_roundg k1
      case measure => omega
      case rel => exact ⟨out, at1, 23, ⟨R_far HI0.out HO.out ()⟩, HX, ⟨by repeat (first | (with_reducible first | exact HI0.out | apply IsS67.alloc | apply IsS67.drewN | apply IsS67.drew | apply IsS67.set_1 | apply IsS67.set_2) | exact HI0.out)⟩, ⟨by repeat (first | (with_reducible first | exact HB.out | apply below_alloc | apply pw_below_drewN | apply below_drew1 | refine below_set ?_ (IsS67.ge HI0.out)) | exact HB.out)⟩⟩
     ·rw [if_neg h2] at H
      have h2b : decide (nn > wrap64 (2048 - (out.length : Int))) = false := decide_eq_false h2
      by_cases h3 : nn = 0
      ·subst h3
       rw [if_pos rfl] at H
       replace H := Option.bind_eq_some_iff.mp H
       obtain ⟨⟨p1, p2⟩, AL20, H⟩ := H
       have AL2 := Aside0.mk AL20
       clear AL20 h2
       simp only [Option.some.injEq, Prod.mk.injEq] at H
       obtain ⟨rfl, rfl, rfl⟩ := H
       go_wp2_with (first | (go_at_call 31; (with_reducible refine (body_reader_size.calls g s0_0 at_ 0 0 at1 0 w0 _ ?side1 ?side2 AL.out).mono ?_); (case side1 => exact HI0.out); (case side2 => exact HB.out); rintro e w9 ⟨rfl, hi, hb, hk⟩; have n1_ := Aside0.mk hi; have n2_ := Aside0.mk hb; have n3_ := Aside0.mk (R_keepS HI0.out HO.out hk); clear hc2 hi hb hk HI0 HB HO; have HI0 := n1_; have HB := n2_; have HO := n3_; clear n1_ n2_ n3_; obtain ⟨A0, c0, HG, hge, HS⟩ := HI0.out; have hc0 := cellS67_0 HG; have hc1 := cellS67_1 HG; have hc2 := cellS67_2 HG; have hfz1 := blk_frozen HG 1; have hfz2 := blk_frozen HG 2; have HS := Aside0.mk HS; have hcc := hge.2; have HGB := Aside0.mk HG; clear HG hge; have HS2 := Aside0.mk hcc) | (go_at_call 32; (with_reducible refine (body_reader_line.calls 6 g s0_0 at1 0 p1 p2 w0 _ ?side1 ?side2 AL2.out).mono ?_); (case side1 => repeat (first | (with_reducible first | exact HI0.out | apply IsS67.alloc | apply IsS67.drewN | apply IsS67.drew | apply IsS67.set_1 | apply IsS67.set_2) | exact HI0.out)); (case side2 => repeat (first | (with_reducible first | exact HB.out | apply below_alloc | apply pw_below_drewN | apply below_drew1 | refine below_set ?_ (IsS67.ge HI0.out)) | exact HB.out)); rintro e w10 ⟨rfl, hi, hb, hk⟩; have n1_ := Aside0.mk hi; have n2_ := Aside0.mk hb; have n3_ := Aside0.mk (R_keepS (by repeat (first | (with_reducible first | exact HI0.out | apply IsS67.alloc | apply IsS67.drewN | apply IsS67.drew | apply IsS67.set_1 | apply IsS67.set_2) | exact HI0.out)) (HO.out) hk); clear hi hb hk HI0 HB HO; have HI0 := n1_; have HB := n2_; have HO := n3_; clear n1_ n2_ n3_))
       go_ret
       exact ⟨_, rfl, HO.out, HI0.out, HB.out⟩
      ·rw [if_neg h3] at H
       have h3b : (nn == 0) = false := beq_false_of_ne h3
       by_cases h4 : 0 < nn ∧ 0 ≤ at1 ∧ at1 ≤ (s0_0.length : Int) ∧ (s0_0.length : Int) < 140737488350000 ∧ out.length ≤ 2048
       ·rw [if_pos h4] at H
        replace H := Option.bind_eq_some_iff.mp H
        obtain ⟨⟨p1, p2⟩, AL20, H⟩ := H
        have AL2 := Aside0.mk AL20
        have HX := Aside0.mk H
        have H4 := Aside0.mk h4
        clear AL20 H h4 h2 h3
        go_wp2_with (go_at_call 31; (with_reducible refine (body_reader_size.calls g s0_0 at_ 0 nn at1 0 w0 _ ?side1 ?side2 AL.out).mono ?_); (case side1 => exact HI0.out); (case side2 => exact HB.out); rintro e w9 ⟨rfl, hi, hb, hk⟩; have n1_ := Aside0.mk hi; have n2_ := Aside0.mk hb; have n3_ := Aside0.mk (R_keepS HI0.out HO.out hk); clear hc2 hi hb hk HI0 HB HO; have HI0 := n1_; have HB := n2_; have HO := n3_; clear n1_ n2_ n3_; obtain ⟨A0, c0, HG, hge, HS⟩ := HI0.out; have hc0 := cellS67_0 HG; have hc1 := cellS67_1 HG; have hc2 := cellS67_2 HG; have hfz1 := blk_frozen HG 1; have hfz2 := blk_frozen HG 2; have HS := Aside0.mk HS; have hcc := hge.2; have HGB := Aside0.mk HG; clear HG hge; have HS2 := Aside0.mk hcc)
        repeat (go_quiet (fail); try go_wp2)
        clear h2b h3b
        obtain ⟨an, han⟩ := Int.eq_ofNat_of_zero_le H4.out.2.1
        subst han
        have hkk0 : 0 ≤ min nn (wrap64 ((s0_0.length : Int) - (an : Int))) ∧ min nn (wrap64 ((s0_0.length : Int) - (an : Int))) ≤ (s0_0.length : Int) - (an : Int) := by
         have := H4.out
         have hw : wrap64 ((s0_0.length : Int) - (an : Int)) = (s0_0.length : Int) - (an : Int) := by unfold Go.RowKit.wrap64; omega
         rw [hw]; omega
        generalize hkg : min nn (wrap64 ((s0_0.length : Int) - (an : Int))) = kk at *
        have HKG := Aside0.mk hkg
        clear hkg
        obtain ⟨kn, hkn⟩ := Int.eq_ofNat_of_zero_le hkk0.1
        subst hkn
        have hank : an + kn ≤ s0_0.length := by omega
        have hlen63 : s0_0.length < 140737488350000 := by have := H4.out; omega
        have hcc := HS2.out
        have HRR : ∀ W, Below w0.heap.size w0 W → ReadsRow (Kd.K (Kd.int .u8) W) 1 W (if c0 = an then A0 else A0.map (·.add (an * 1))) kn ((s0_0.drop an).take kn) := fun W hb => by
         have h1 := Kd.C_drop (m := an) (Kd.C_below HS.out hb) (by omega) hcc
         have h2 := Kd.C_take (m := kn) h1 (by rw [List.length_drop]; omega)
         have h3 : ((s0_0.drop an).take kn).length = kn := by rw [List.length_take, List.length_drop]; omega
         rw [h3] at h2
         exact h2
        have HRR := Aside0.mk HRR
        have HKK := Aside0.mk hank
        have HL63 := Aside0.mk hlen63
        clear hkk0
                
        refine start_ (n := 18) (S := fun w' => w'.cell? ⟨g, 0, none⟩ = some (.slice A0 s0_0.length c0) ∧ w'.cell? ⟨g, 1, none⟩ = some (.int .i64 (an : Int))) (ds := []) #[false, false, false, false, false, false, false, false, false, false, false, false, false, false, false, false, false, false] (by kernel_rfl) rfl rfl ⟨by exact hc0, by exact hc1⟩ (fun hHeld => ?_)
        refine pure_ (i := 0) (N := some 25) (v := ?_) (a' := ?_) #[true, false, false, false, false, false, false, false, false, false, false, false, false, false, false, false, false, false] rfl rfl (by kernel_rfl) (fun _ _ _ h => h) (Or.inl ⟨by rfl, ?_⟩) ?_ ?_
        rotate_left
        ·intro w'
         go_simp
         with_reducible rfl
        rotate_left
        ·simp only [Act.put, List.setIfInBounds_toArray, List.set_cons_zero, List.set_cons_succ, i64_w, i32_w]
         rfl
        refine pure_ (i := 1) (N := some 26) (v := ?_) (a' := ?_) #[true, true, false, false, false, false, false, false, false, false, false, false, false, false, false, false, false, false] rfl rfl (by kernel_rfl) (fun _ _ _ h => h) (Or.inl ⟨by rfl, ?_⟩) ?_ ?_
        rotate_left
        ·intro w'
         go_simp
         with_reducible rfl
        rotate_left
        ·simp only [Act.put, List.setIfInBounds_toArray, List.set_cons_zero, List.set_cons_succ, i64_w, i32_w]
         rfl
        refine pure_ (i := 2) (N := some 27) (v := ?_) (a' := ?_) #[true, true, true, false, false, false, false, false, false, false, false, false, false, false, false, false, false, false] rfl rfl (by kernel_rfl) (fun _ _ _ h => h) (Or.inl ⟨by rfl, ?_⟩) ?_ ?_
        rotate_left
        ·intro w'
         go_simp
         with_reducible rfl
        rotate_left
        ·simp only [Act.put, List.setIfInBounds_toArray, List.set_cons_zero, List.set_cons_succ, i64_w, i32_w]
         rfl
        refine pure_ (i := 3) (N := some 28) (v := ?_) (a' := ?_) #[true, true, true, true, false, false, false, false, false, false, false, false, false, false, false, false, false, false] rfl rfl (by kernel_rfl) (fun _ _ _ h => h) (Or.inl ⟨by rfl, ?_⟩) ?_ ?_
        rotate_left
        ·intro w'
         go_simp
         with_reducible rfl
        rotate_left
        ·simp only [Act.put, List.setIfInBounds_toArray, List.set_cons_zero, List.set_cons_succ, i64_w, i32_w]
         rfl
        refine pure_ (i := 5) (N := some 30) (v := ?_) (a' := ?_) #[true, true, true, true, false, true, false, false, false, false, false, false, false, false, false, false, false, false] rfl rfl (by kernel_rfl) (fun _ _ _ h => h) (Or.inl ⟨by rfl, ?_⟩) ?_ ?_
        rotate_left
        ·intro w'
         go_simp
         with_reducible rfl
        rotate_left
        ·simp only [Act.put, List.setIfInBounds_toArray, List.set_cons_zero, List.set_cons_succ, i64_w, i32_w]
         rfl
        refine pure_ (i := 6) (N := some 31) (v := ?_) (a' := ?_) #[true, true, true, true, false, true, true, false, false, false, false, false, false, false, false, false, false, false] rfl rfl (by kernel_rfl) (fun _ _ _ h => h) (Or.inl ⟨by rfl, ?_⟩) ?_ ?_
        rotate_left
        ·intro w'
         go_simp
         with_reducible rfl
        rotate_left
        ·simp only [Act.put, List.setIfInBounds_toArray, List.set_cons_zero, List.set_cons_succ, i64_w, i32_w]
         rfl
        refine pure_ (i := 7) (N := some 32) (v := ?_) (a' := ?_) #[true, true, true, true, false, true, true, true, false, false, false, false, false, false, false, false, false, false] rfl rfl (by kernel_rfl) (fun _ _ _ h => h) (Or.inl ⟨by rfl, ?_⟩) ?_ ?_
        rotate_left
        ·intro w'
         go_simp
         with_reducible rfl
        rotate_left
        ·simp only [Act.put, List.setIfInBounds_toArray, List.set_cons_zero, List.set_cons_succ, i64_w, i32_w]
         rfl
        refine pure_ (i := 9) (N := some 34) (v := ?_) (a' := ?_) #[true, true, true, true, false, true, true, true, false, true, false, false, false, false, false, false, false, false] rfl rfl (by kernel_rfl) (fun _ _ _ h => h) (Or.inl ⟨by rfl, ?_⟩) ?_ ?_
        rotate_left
        ·intro w'
         go_simp
         with_reducible rfl
        rotate_left
        ·simp only [Act.put, List.setIfInBounds_toArray, List.set_cons_zero, List.set_cons_succ, i64_w, i32_w]
         rfl
        refine pure_ (i := 10) (N := some 35) (v := ?_) (a' := ?_) #[true, true, true, true, false, true, true, true, false, true, true, false, false, false, false, false, false, false] rfl rfl (by kernel_rfl) (fun _ _ _ h => h) (Or.inl ⟨by rfl, ?_⟩) ?_ ?_
        rotate_left
        ·intro w'
         go_simp
         with_reducible rfl
        rotate_left
        ·simp only [Act.put, List.setIfInBounds_toArray, List.set_cons_zero, List.set_cons_succ, i64_w, i32_w]
         rfl
        refine pure_ (i := 11) (N := some 36) (v := ?_) (a' := ?_) #[true, true, true, true, false, true, true, true, false, true, true, true, false, false, false, false, false, false] rfl rfl (by kernel_rfl) (fun _ _ _ h => h) (Or.inl ⟨by rfl, ?_⟩) ?_ ?_
        rotate_left
        ·intro w'
         go_simp
         with_reducible rfl
        rotate_left
        ·simp only [Act.put, List.setIfInBounds_toArray, List.set_cons_zero, List.set_cons_succ, i64_w, i32_w]
         rfl
        refine pure_ (i := 13) (N := some 38) (v := ?_) (a' := ?_) #[true, true, true, true, false, true, true, true, false, true, true, true, false, true, false, false, false, false] rfl rfl (by kernel_rfl) (fun _ _ _ h => h) (Or.inl ⟨by rfl, ?_⟩) ?_ ?_
        rotate_left
        ·intro w'
         go_simp
         with_reducible rfl
        rotate_left
        ·simp only [Act.put, List.setIfInBounds_toArray, List.set_cons_zero, List.set_cons_succ, i64_w, i32_w]
         rfl
        refine take_ (i := 4) (N := some 29) (v := ?_) (a' := ?_) #[true, true, true, true, true, true, true, true, false, true, true, true, false, true, false, false, false, false] rfl rfl (by kernel_rfl) (fun _ _ _ h => h) (Or.inl ⟨by rfl, ?_⟩) hHeld ?_ ?_
        rotate_left
        ·rintro w' ⟨s0, s1⟩
         go_simp
         with_reducible rfl
        rotate_left
        ·simp only [Act.put, List.setIfInBounds_toArray, List.set_cons_zero, List.set_cons_succ, i64_w, i32_w]
         rfl
        refine take_ (i := 8) (N := some 33) (v := ?_) (a' := ?_) #[true, true, true, true, true, true, true, true, true, true, true, true, false, true, false, false, false, false] rfl rfl (by kernel_rfl) (fun _ _ _ h => h) (Or.inl ⟨by rfl, ?_⟩) hHeld ?_ ?_
        rotate_left
        ·rintro w' ⟨s0, s1⟩
         go_simp
         with_reducible rfl
        rotate_left
        ·simp only [Act.put, List.setIfInBounds_toArray, List.set_cons_zero, List.set_cons_succ, i64_w, i32_w]
         rfl
        refine take_ (i := 12) (N := some 37) (v := ?_) (a' := ?_) #[true, true, true, true, true, true, true, true, true, true, true, true, true, true, false, false, false, false] rfl rfl (by kernel_rfl) (fun _ _ _ h => h) (Or.inl ⟨by rfl, ?_⟩) hHeld ?_ ?_
        rotate_left
        ·rintro w' ⟨s0, s1⟩
         go_simp
         with_reducible rfl
        rotate_left
        ·simp only [Act.put, List.setIfInBounds_toArray, List.set_cons_zero, List.set_cons_succ, i64_w, i32_w]
         rfl
        refine pure_ (i := 14) (N := some 39) (v := .int .i64 ((an : Int) + (kn : Int))) (a' := ?_) #[true, true, true, true, true, true, true, true, true, true, true, true, true, true, true, false, false, false] rfl rfl (by kernel_rfl) (fun _ _ _ h => h) (Or.inl ⟨by rfl, ?_⟩) ?_ ?_
        ·intro w'
         go_simp; rw [IntKind.wrap_i64]; omega
        rotate_left
        ·simp only [Act.put, List.setIfInBounds_toArray, List.set_cons_zero, List.set_cons_succ, i64_w, i32_w]
         rfl
        refine pure_ (i := 15) (N := some 40) (v := .slice (if c0 = an then A0 else A0.map (·.add (an * 1))) kn (c0 - an)) (a' := ?_) #[true, true, true, true, true, true, true, true, true, true, true, true, true, true, true, true, false, false] rfl rfl (by kernel_rfl) (fun _ _ _ h => h) (Or.inl ⟨by rfl, ?_⟩) ?_ ?_
        ·intro w'
         go_simp; rw [if_pos ⟨by omega, by omega⟩, if_pos (by omega), show ((an : Int) + (kn : Int)).toNat = an + kn from by omega, show an + kn - an = kn from by omega]; try simp
        rotate_left
        ·simp only [Act.put, List.setIfInBounds_toArray, List.set_cons_zero, List.set_cons_succ, i64_w, i32_w]
         rfl
        refine one_ (i := 16) (N := some 41) #[true, true, true, true, true, true, true, true, true, true, true, true, true, true, true, true, true, false] rfl rfl (by kernel_rfl) (by decide) (fun K hK => ?_)
        refine Kd.R_append_rows_step (Kd.int .u8) (w0 := w0) w0.heap.size (by rfl) (.tmp 25) (.tmp 40) 22 5 (.int .u8 0) 1 rfl Tryd.underlying22 info5 rfl (by decide) (by omega) (.slice Ao out.length co) out ((s0_0.drop an).take kn) (if c0 = an then A0 else A0.map (·.add (an * 1))) kn (c0 - an) (fun _ => True) (fun _ => False) rfl rfl ?aO ?aR (fun _ _ h => h) (fun _ h => h.elim) (fun _ _ => trivial) ?aB ?aS ?aL ?_
        case aO => exact Kd.R_drew (Kd.R_drewN HO.out _)
        case aR => exact HRR.out _ (below_drew1 (pw_below_drewN HB.out _))
        case aB => exact (below_drew1 (pw_below_drewN HB.out _))
        case aS => exact (below_drew1 (pw_below_drewN HB.out _)).size
        case aL => have := H4.out; have := HKK.out; have := HL63.out; omega
        intro v1 w1 ho hb hg hat
        have HO1 := Aside0.mk ho
        have HB1 := Aside0.mk hb
        have HI1 := Aside0.mk (IsS67.grown (IsS67.drew (IsS67.drewN HI0.out _)) hg (IsS67.own_ne HI0.out HO.out (by decide)))
        have HG1 := blk_grown (g := g) (blk_drew (blk_drewN HGB.out _)) hg (IsS67.own_ne HI0.out HO.out (by decide))
        have HG1b := Aside0.mk HG1
        clear ho hb hg hat hc0 hc1 hc2 hfz1 hfz2
        refine hK.out _ _ ⟨?sA, ?sB⟩ (fun _ => ?_)
        case sA => exact cellS67_0 HG1
        case sB => exact cellS67_1 HG1
        clear hK K
        refine norm_ (a' := ?_) ?_ ?_
        rotate_left
        ·show Act.put _ (some 41) _ = _
         simp only [Act.put, List.setIfInBounds_toArray, List.set_cons_zero, List.set_cons_succ, i64_w, i32_w]
         rfl
        refine pure_ (i := 17) (N := some 3) (v := ?_) (a' := ?_) #[true, true, true, true, true, true, true, true, true, true, true, true, true, true, true, true, true, true] rfl rfl (by kernel_rfl) (fun _ _ _ h => h) (Or.inl ⟨by rfl, ?_⟩) ?_ ?_
        rotate_left
        ·intro w'
         go_simp
         with_reducible rfl
        rotate_left
        ·simp only [Act.put, List.setIfInBounds_toArray, List.set_cons_zero, List.set_cons_succ, i64_w, i32_w]
         rfl
        refine done_ (by kernel_rfl) ?_
        generalize (if c0 = an then A0 else A0.map (·.add (an * 1))) = AX at *
        clear HI0 HB HO
        have HI0 := HI1
        have HB := HB1
        have HK := Aside0.mk (KeepBut.refl w1 g none)
        have hc1 := cellS67_1 HG1b.out
        have hc2 := cellS67_2 HG1b.out
        have hfz1 := blk_frozen HG1b.out 1
        have hfz2 := blk_frozen HG1b.out 2
        have hwk : wrap64 ((an : Int) + (kn : Int)) = (an : Int) + (kn : Int) := by have := HKK.out; have := HL63.out; unfold Go.RowKit.wrap64; omega
        by_cases hlt : (kn : Int) < nn
        ·have AL3 := AL2.out
         rw [if_pos hlt, hwk] at AL3
         clear hwk
         have AL3 := Aside0.mk AL3
        
         clear AL2
         go_wp2_with (go_at_call 32; (with_reducible refine (body_reader_line.calls 6 g s0_0 ((an : Int) + (kn : Int)) 20 p1 p2 w0 _ ?side1 ?side2 AL3.out).mono ?_); (case side1 => repeat (first | (with_reducible first | exact HI0.out | apply IsS67.alloc | apply IsS67.drewN | apply IsS67.drew | apply IsS67.set_1 | apply IsS67.set_2) | exact HI0.out)); (case side2 => repeat (first | (with_reducible first | exact HB.out | apply below_alloc | apply pw_below_drewN | apply below_drew1 | refine below_set ?_ (IsS67.ge HI0.out)) | exact HB.out)); rintro e w10 ⟨rfl, hi, hb, hk⟩; have n1_ := Aside0.mk hi; have n2_ := Aside0.mk hb; have n3_ := Aside0.mk (R_keepS HI1.out HO1.out (KeepBut.trans (by repeat (first | (with_reducible first | exact HK.out | apply KeepBut.set_ | apply keep_drewN | apply keep_drew | apply keep_alloc) | exact HK.out)) hk (.inl rfl))); clear hi hb hk HK HI0 HB HO1; have HI0 := n1_; have HB := n2_; have HO := n3_; clear n1_ n2_ n3_)
         go_roundg k1
         case measure => omega
         case rel => exact ⟨_, _, _, HO, HX, HI0, HB⟩
        ·have AL3 := AL2.out
         rw [if_neg hlt, hwk] at AL3
         clear hwk
         have AL3 := Aside0.mk AL3
        
         clear AL2
         go_wp2_with (go_at_call 32; (with_reducible refine (body_reader_line.calls 6 g s0_0 ((an : Int) + (kn : Int)) 0 p1 p2 w0 _ ?side1 ?side2 AL3.out).mono ?_); (case side1 => repeat (first | (with_reducible first | exact HI0.out | apply IsS67.alloc | apply IsS67.drewN | apply IsS67.drew | apply IsS67.set_1 | apply IsS67.set_2) | exact HI0.out)); (case side2 => repeat (first | (with_reducible first | exact HB.out | apply below_alloc | apply pw_below_drewN | apply below_drew1 | refine below_set ?_ (IsS67.ge HI0.out)) | exact HB.out)); rintro e w10 ⟨rfl, hi, hb, hk⟩; have n1_ := Aside0.mk hi; have n2_ := Aside0.mk hb; have n3_ := Aside0.mk (R_keepS HI1.out HO1.out (KeepBut.trans (by repeat (first | (with_reducible first | exact HK.out | apply KeepBut.set_ | apply keep_drewN | apply keep_drew | apply keep_alloc) | exact HK.out)) hk (.inl rfl))); clear hi hb hk HK HI0 HB HO1; have HI0 := n1_; have HB := n2_; have HO := n3_; clear n1_ n2_ n3_)
         go_roundg k1
         case measure => omega
         case rel => exact ⟨_, _, _, HO, HX, HI0, HB⟩
       ·rw [if_neg h4] at H; cases H
    ·rw [if_neg h1] at H
     have h1b : (e1 == 0) = false := beq_false_of_ne h1
     have h1c : (e1 != 0) = true := by simpa using h1
     clear h1
     have HX := Aside0.mk H
     clear H
     go_wp2_with (go_at_call 31; (with_reducible refine (body_reader_size.calls g s0_0 at_ 0 nn at1 e1 w0 _ ?side1 ?side2 AL.out).mono ?_); (case side1 => exact HI0.out); (case side2 => exact HB.out); rintro e w9 ⟨rfl, hi, hb, hk⟩; have n1_ := Aside0.mk hi; have n2_ := Aside0.mk hb; have n3_ := Aside0.mk (R_keepS HI0.out HO.out hk); clear hc2 hi hb hk HI0 HB HO; have HI0 := n1_; have HB := n2_; have HO := n3_; clear n1_ n2_ n3_; obtain ⟨A0, c0, HG, hge, HS⟩ := HI0.out; have hc0 := cellS67_0 HG; have hc1 := cellS67_1 HG; have hc2 := cellS67_2 HG; have hfz1 := blk_frozen HG 1; have hfz2 := blk_frozen HG 2; have HS := Aside0.mk HS; have hcc := hge.2; have HGB := Aside0.mk HG; clear HG hge; have HS2 := Aside0.mk hcc)
     go_roundg k1
     case measure => omega
     case rel => exact ⟨out, at1, e1, HO, HX, HI0, HB⟩
   ·rw [if_neg he] at H
    simp only [Option.some.injEq, Prod.mk.injEq] at H
    obtain ⟨rfl, rfl, rfl⟩ := H
    have heb : (e_ == 0) = false := beq_false_of_ne he
    clear he
    go_wp2
    go_ret
    exact ⟨_, rfl, HO.out, HI0.out, HB.out⟩
end
/-! ### slices_Clone_byte_byte: function 25 -/
theorem R_made0 (w : World) (e : Nat) : Kd.R (Kd.int .u8) e (w.alloc (.cells #[] e)) w.heap.size (fun _ => True) (.slice (some ⟨w.heap.size, 0, none⟩) 0 0) [] :=
 ⟨fun _ _ => trivial, [], ⟨rfl, .inr ⟨w.heap.size, 0, #[], rfl, Nat.le_refl _, blk_new _ _, Nat.le_refl _, by decide, rfl, rfl⟩⟩, ⟨rfl, fun j p h => by simp at h⟩⟩
def slices_Clone_byte_byte.f (l0 : List Int) : Option (List Int) := if l0.length < 140737488355328 then some l0 else none
set_option maxHeartbeats 1000000 in
set_option maxRecDepth 100000 in
theorem slices_Clone_byte_byte.calls (A0 : Option Addr) (c0 : Nat) (l0 : List Int) (r : List Int) (w : World) (hr0 : Kd.C (Kd.int .u8) w A0 l0.length l0) (hc0 : l0.length ≤ c0) (h : slices_Clone_byte_byte.f l0 = some r) :
  Calls Tryd.prog 25 #[.slice A0 l0.length c0] w fun e w' => ∃ v0_ : Value, e = .returned (v0_) ∧ Kd.R (Kd.int .u8) 5 w' w.heap.size (fun _ => True) v0_ r ∧ Below w.heap.size w w' := by
 unfold slices_Clone_byte_byte.f at h
 split at h
 case isFalse => cases h
 rename_i hl
 have Hr := Lib.hid (Option.some.inj h)
 clear h
 have HL := Lib.hid hl
 clear hl
 have HC := Lib.hid hr0
 clear hr0
 cases A0 with
 | none =>
  have he := fun (w : World) => Lib.run_eql_slice_nil (P := Tryd.prog) w 22 5 none l0.length c0 0 0 Tryd.underlying22
  go_enter Tryd.func25, Tryd.ntmps25
  go_wp2
  clear he
  have hnil : l0 = [] := by
   rcases Nat.eq_zero_or_pos l0.length with h0 | h0
   ·exact List.length_eq_zero_iff.1 h0
   ·obtain ⟨ad, h1, _⟩ := HC.2.2 h0; cases h1
  go_ret
  exact ⟨_, rfl, by rw [← Hr.out, hnil]; exact Kd.R_nil _ _ _ _ _, Below.refl _ _⟩
 | some ad =>
  have he := fun (w : World) => Lib.run_eql_slice_nil (P := Tryd.prog) w 22 5 (some ad) l0.length c0 0 0 Tryd.underlying22
  go_enter Tryd.func25, Tryd.ntmps25
  go_wp2_with ((with_reducible refine gate_builtin (b := .append) (xs := #[.tmp 5, .tmp 6]) rfl ?_); at_builtin; refine Kd.R_append_rows (Kd.int .u8) (w0 := w) w.heap.size rfl (.tmp 5) (.tmp 6) 22 5 (.int .u8 0) 1 rfl Tryd.underlying22 info5 rfl (by decide) (by omega) (.slice (some ⟨w.heap.size, 0, none⟩) 0 0) [] l0 (some ad) l0.length c0 (fun _ => True) (fun _ => False) rfl rfl ?aO ?aR (fun _ _ h => h) (fun _ h => h.elim) ?aF ?aB ?aS ?aL ?_; (case aR => exact Kd.C_alloc HC.out _); (case aO => exact R_made0 w 5); (case aF => exact fun _ _ => trivial); (case aB => exact below_alloc (Below.refl _ _) _); (case aS => simp); (case aL => have := HL.out; simp; omega); intro v1 w1 ho hb hg hat; have HO := Aside0.mk ho; have HB := Aside0.mk hb; clear ho hb hg hat)
  go_ret
  refine ⟨_, rfl, ?_, HB.out⟩
  rw [← Hr.out]
  exact HO.out
end Go.Proofs.YtodfjcmjoogcgaaDoor.P
