import Derived.Test.YtodfjcmjoogcgaaDoorZBodyFramesPx0
namespace Go.Proofs.YtodfjcmjoogcgaaDoor.P
open Go.RowKit Go.Proofs.YtodfjcmjoogcgaaDoorW.PrintWords Go.Proofs.YtodfjcmjoogcgaaDoorW.PrintLast Go.Proofs.YtodfjcmjoogcgaaDoorW.PrintMore
attribute [local go_sem] max2_int min2_int max_two min_two max_three min_three max_four min_four   -- for this text's walks alone
set_option linter.unusedVariables false
set_option linter.unusedSimpArgs false
/-- A state of type 67 at block g of W; what its slices lead to came in by w0. -/
def IsS67 (w0 W : World) (g : Nat) (f0 : List Int) (f1 : Int) (f2 : Int) : Prop := ∃ A0 c0, W.heap[g]? = some (.cells #[.slice A0 f0.length c0, .int .i64 f1, .int .i64 f2] 67 (0, 0)) ∧ (w0.heap.size ≤ g ∧ f0.length ≤ c0) ∧ Kd.C (Kd.int .u8) w0 A0 f0.length f0
theorem IsS67.grown {w0 W : World} {g : Nat} {f0 : List Int} {f1 : Int} {f2 : Int} {W1 : World} {row : Option Nat} (h : IsS67 w0 W g f0 f1 f2) (hw : W.grownBy W1 row) (hne : some g ≠ row) : IsS67 w0 W1 g f0 f1 f2 := by
 obtain ⟨A0, c0, hb, hg, hr0⟩ := h
 exact ⟨A0, c0, blk_grown hb hw hne, hg, hr0⟩
theorem IsS67.below {w0 W : World} {g : Nat} {f0 : List Int} {f1 : Int} {f2 : Int} {W1 : World} (h : IsS67 w0 W g f0 f1 f2) (hw : Below W.heap.size W W1) : IsS67 w0 W1 g f0 f1 f2 := h.grown (grown_of_below hw none) (by simp)
theorem IsS67.alloc {w0 W : World} {g : Nat} {f0 : List Int} {f1 : Int} {f2 : Int} (h : IsS67 w0 W g f0 f1 f2) (o : Obj) : IsS67 w0 (W.alloc o) g f0 f1 f2 := h.below (below_alloc (Below.refl _ _) o)
theorem IsS67.drewN {w0 W : World} {g : Nat} {f0 : List Int} {f1 : Int} {f2 : Int} (h : IsS67 w0 W g f0 f1 f2) (m : Nat) : IsS67 w0 (W.drewN m) g f0 f1 f2 := h
theorem IsS67.drew {w0 W : World} {g : Nat} {f0 : List Int} {f1 : Int} {f2 : Int} (h : IsS67 w0 W g f0 f1 f2) : IsS67 w0 W.drew g f0 f1 f2 := h
theorem IsS67.at_ {w0 W : World} {g : Nat} {f0 : List Int} {f1 : Int} {f2 : Int} {w' : World} {m : Nat} (hq : W.drewN m = w') (h : IsS67 w0 W g f0 f1 f2) : IsS67 w0 w' g f0 f1 f2 := by subst hq; exact IsS67.drewN h m
theorem IsS67.own_ne {w0 W : World} {g : Nat} {f0 : List Int} {f1 : Int} {f2 : Int} {α : Type} {d : Kd α} {e : Nat} {base : Nat} {ok : Nat → Prop} {v : Value} {xs : List α} (h : IsS67 w0 W g f0 f1 f2) (ho : d.R e W base ok v xs) (ht : e ≠ 67) : some g ≠ v.ownBlock := by
 obtain ⟨A0, c0, hb, hg, hr0⟩ := h
 exact Kd.R_ne ho hb ht
theorem IsS67.lt {w0 W : World} {g : Nat} {f0 : List Int} {f1 : Int} {f2 : Int} (h : IsS67 w0 W g f0 f1 f2) : g < W.heap.size := by
 obtain ⟨A0, c0, hb, hg, hr0⟩ := h
 exact blk_lt hb
theorem IsS67.ge {w0 W : World} {g : Nat} {f0 : List Int} {f1 : Int} {f2 : Int} (h : IsS67 w0 W g f0 f1 f2) : w0.heap.size ≤ g := by
 obtain ⟨A0, c0, hb, hg, hr0⟩ := h
 exact hg.1
theorem cellS67_0 {W : World} {g : Nat} {A0 : Option Addr} {c0 : Nat} {f0 : List Int} {f1 : Int} {f2 : Int} (h : W.heap[g]? = some (.cells #[.slice A0 f0.length c0, .int .i64 f1, .int .i64 f2] 67 (0, 0))) : W.cell? ⟨g, 0, none⟩ = some (.slice A0 f0.length c0) := (blk_cell h 0).trans rfl
theorem cellS67_1 {W : World} {g : Nat} {A0 : Option Addr} {c0 : Nat} {f0 : List Int} {f1 : Int} {f2 : Int} (h : W.heap[g]? = some (.cells #[.slice A0 f0.length c0, .int .i64 f1, .int .i64 f2] 67 (0, 0))) : W.cell? ⟨g, 1, none⟩ = some (.int .i64 f1) := (blk_cell h 1).trans rfl
theorem IsS67.set_1 {w0 W : World} {g : Nat} {f0 : List Int} {f1 : Int} {f2 : Int} (h : IsS67 w0 W g f0 f1 f2) (x : Int) : IsS67 w0 (W.setCell ⟨g, 1, none⟩ (.int .i64 x)) g f0 x f2 := by
 obtain ⟨A0, c0, hb, hg, hr0⟩ := h
 exact ⟨A0, c0, by simpa using blk_set hb 1 (.int .i64 x), hg, hr0⟩
theorem cellS67_2 {W : World} {g : Nat} {A0 : Option Addr} {c0 : Nat} {f0 : List Int} {f1 : Int} {f2 : Int} (h : W.heap[g]? = some (.cells #[.slice A0 f0.length c0, .int .i64 f1, .int .i64 f2] 67 (0, 0))) : W.cell? ⟨g, 2, none⟩ = some (.int .i64 f2) := (blk_cell h 2).trans rfl
theorem IsS67.set_2 {w0 W : World} {g : Nat} {f0 : List Int} {f1 : Int} {f2 : Int} (h : IsS67 w0 W g f0 f1 f2) (x : Int) : IsS67 w0 (W.setCell ⟨g, 2, none⟩ (.int .i64 x)) g f0 f1 x := by
 obtain ⟨A0, c0, hb, hg, hr0⟩ := h
 exact ⟨A0, c0, by simpa using blk_set hb 2 (.int .i64 x), hg, hr0⟩
theorem IsS67.new (w0 W : World) (A0 : Option Addr) (c0 : Nat) (f0 : List Int) (f1 : Int) (f2 : Int) (hB : Below w0.heap.size w0 W) (hr0 : Kd.C (Kd.int .u8) w0 A0 f0.length f0) (hcc0 : f0.length ≤ c0 := by first | assumption | exact Aside0.out (by assumption) | (simp; done)) : IsS67 w0 (W.alloc (.cells #[.slice A0 f0.length c0, .int .i64 f1, .int .i64 f2] 67)) W.heap.size f0 f1 f2 := ⟨A0, c0, by simpa using heap_alloc_new W _, ⟨hB.size, hcc0⟩, hr0⟩
/-! ### body_reader_more: function 45 -/
def body_reader_more.f (s0_0 : List Int) (s0_1 : Int) (s0_2 : Int) : Option (Bool × Int × Int) := if s0_2 = 0 then (if s0_1 = (s0_0.length : Int) then (some ((20 == 0), s0_1, 20)) else (some ((s0_2 == 0), s0_1, s0_2))) else (some ((s0_2 == 0), s0_1, s0_2))
set_option maxHeartbeats 8000000 in
set_option maxRecDepth 100000 in
theorem body_reader_more.calls (g : Nat) (s0_0 : List Int) (s0_1 : Int) (s0_2 : Int) (r1 : Bool) (r2 : Int) (r3 : Int) (w0 w : World) (hI : IsS67 w0 w g s0_0 s0_1 s0_2) (hB : Below w0.heap.size w0 w) (h : body_reader_more.f s0_0 s0_1 s0_2 = some (r1, r2, r3)) :
  Calls Tryd.prog 45 #[.pointer (some ⟨g, 0, none⟩)] w fun e w' => e = .returned (.bool r1) ∧ IsS67 w0 w' g s0_0 r2 r3 ∧ Below w0.heap.size w0 w' ∧ KeepBut w w' g none := by
 have HI0 := Aside0.mk hI
 have HK := Aside0.mk (KeepBut.refl w g none)
 have HL := Aside0.mk hB.size
 clear hI
 have HW0 := Aside0.mk hB.size
 have HB := Aside0.mk hB
 clear hB
 have H : (if s0_2 = 0 then (if s0_1 = (s0_0.length : Int) then (some ((20 == 0), s0_1, 20)) else (some ((s0_2 == 0), s0_1, s0_2))) else (some ((s0_2 == 0), s0_1, s0_2))) = some (r1, r2, r3) := h
 clear h
 by_cases c2 : s0_2 = 0
 ·rw [if_pos c2] at H
  have c2b0 : (s0_2 == 0) = true := beq_iff_eq.mpr c2
  have c2b1 : (s0_2 != 0) = false := bne_eq_false_iff_eq.mpr c2
  clear c2
  by_cases c3 : s0_1 = (s0_0.length : Int)
  ·rw [if_pos c3] at H
   have c3b0 : (s0_1 == (s0_0.length : Int)) = true := beq_iff_eq.mpr c3
   have c3b1 : (s0_1 != (s0_0.length : Int)) = false := bne_eq_false_iff_eq.mpr c3
   clear c3
   simp only [Option.some.injEq, Prod.mk.injEq] at H
   obtain ⟨rfl, rfl, rfl⟩ := H
   obtain ⟨ASz4_0, cSz4_0, HGz4, hgz4, HSz4_0⟩ := HI0.out
   have hcz4_0 := cellS67_0 HGz4
   have hcz4_1 := cellS67_1 HGz4
   have hcz4_2 := cellS67_2 HGz4
   have hfz4_1 := blk_frozen HGz4 1
   have hfz4_2 := blk_frozen HGz4 2
   clear HGz4 hgz4
   go_enter Tryd.func45, Tryd.ntmps45
   go_wp2
   repeat (go_quiet (fail); try go_wp2)
   go_ret
   exact ⟨by first | rfl | (simp <;> rfl) | (simp [*] <;> rfl) | (simp [ne_nil_B, eq_nil_B]; done) | (simp [ne_nil_B, eq_nil_B] <;> rfl), by repeat (first | (with_reducible first | exact HI0.out | apply IsS67.alloc | apply IsS67.drewN | apply IsS67.drew | apply IsS67.set_1 | apply IsS67.set_2) | exact HI0.out), by repeat (first | (with_reducible first | exact HB.out | apply below_alloc | apply pw_below_drewN | apply below_drew1 | refine below_set ?_ (IsS67.ge HI0.out)) | exact HB.out), by repeat (first | (with_reducible first | exact HK.out | apply KeepBut.set_ | apply keep_drewN | apply keep_drew | apply keep_alloc) | exact HK.out)⟩
  ·rw [if_neg c3] at H
   have c3b0 : (s0_1 == (s0_0.length : Int)) = false := beq_eq_false_iff_ne.mpr c3
   have c3b1 : (s0_1 != (s0_0.length : Int)) = true := bne_iff_ne.mpr c3
   simp only [Option.some.injEq, Prod.mk.injEq] at H
   obtain ⟨rfl, rfl, rfl⟩ := H
   obtain ⟨ASz5_0, cSz5_0, HGz5, hgz5, HSz5_0⟩ := HI0.out
   have hcz5_0 := cellS67_0 HGz5
   have hcz5_1 := cellS67_1 HGz5
   have hcz5_2 := cellS67_2 HGz5
   have hfz5_1 := blk_frozen HGz5 1
   have hfz5_2 := blk_frozen HGz5 2
   clear HGz5 hgz5
   go_enter Tryd.func45, Tryd.ntmps45
   go_wp2
   repeat (go_quiet (fail); try go_wp2)
   go_ret
   exact ⟨by first | rfl | (simp <;> rfl) | (simp [*] <;> rfl) | (simp [ne_nil_B, eq_nil_B]; done) | (simp [ne_nil_B, eq_nil_B] <;> rfl), by repeat (first | (with_reducible first | exact HI0.out | apply IsS67.alloc | apply IsS67.drewN | apply IsS67.drew | apply IsS67.set_1 | apply IsS67.set_2) | exact HI0.out), by repeat (first | (with_reducible first | exact HB.out | apply below_alloc | apply pw_below_drewN | apply below_drew1 | refine below_set ?_ (IsS67.ge HI0.out)) | exact HB.out), by repeat (first | (with_reducible first | exact HK.out | apply KeepBut.set_ | apply keep_drewN | apply keep_drew | apply keep_alloc) | exact HK.out)⟩
 ·rw [if_neg c2] at H
  have c2b0 : (s0_2 == 0) = false := beq_eq_false_iff_ne.mpr c2
  have c2b1 : (s0_2 != 0) = true := bne_iff_ne.mpr c2
  simp only [Option.some.injEq, Prod.mk.injEq] at H
  obtain ⟨rfl, rfl, rfl⟩ := H
  obtain ⟨ASz6_0, cSz6_0, HGz6, hgz6, HSz6_0⟩ := HI0.out
  have hcz6_0 := cellS67_0 HGz6
  have hcz6_1 := cellS67_1 HGz6
  have hcz6_2 := cellS67_2 HGz6
  have hfz6_1 := blk_frozen HGz6 1
  have hfz6_2 := blk_frozen HGz6 2
  clear HGz6 hgz6
  go_enter Tryd.func45, Tryd.ntmps45
  go_wp2
  repeat (go_quiet (fail); try go_wp2)
  go_ret
  exact ⟨by first | rfl | (simp <;> rfl) | (simp [*] <;> rfl) | (simp [ne_nil_B, eq_nil_B]; done) | (simp [ne_nil_B, eq_nil_B] <;> rfl), by repeat (first | (with_reducible first | exact HI0.out | apply IsS67.alloc | apply IsS67.drewN | apply IsS67.drew | apply IsS67.set_1 | apply IsS67.set_2) | exact HI0.out), by repeat (first | (with_reducible first | exact HB.out | apply below_alloc | apply pw_below_drewN | apply below_drew1 | refine below_set ?_ (IsS67.ge HI0.out)) | exact HB.out), by repeat (first | (with_reducible first | exact HK.out | apply KeepBut.set_ | apply keep_drewN | apply keep_drew | apply keep_alloc) | exact HK.out)⟩
/-! ### body_digit: function 46 -/
mutual
def body_digit.j0 : Nat → Int → Bool → Option (Int)
 | 0, _, _ => none
 | k + 1, x0, x3 => if x3 = true then (some ((x0 - 48) % 256)) else (if x0 ≥ 97 then (body_digit.j1 k x0 (decide (x0 ≤ 102))) else (body_digit.j1 k x0 false))
def body_digit.j1 : Nat → Int → Bool → Option (Int)
 | 0, _, _ => none
 | k + 1, x0, x13 => if x13 = true then (some (((x0 - 97) % 256) + 10)) else (if x0 ≥ 65 then (if x0 ≤ 70 then (some (((x0 - 65) % 256) + 10)) else (some (-1))) else (some (-1)))
end
def body_digit.f (k : Nat) (a0 : Int) : Option (Int) := if a0 ≥ 48 then (body_digit.j0 k a0 (decide (a0 ≤ 57))) else (body_digit.j0 k a0 false)
set_option maxHeartbeats 8000000 in
set_option maxRecDepth 100000 in
theorem body_digit.calls (k : Nat) (a0 : Int) (r : Int) (w : World) (h : body_digit.f k a0 = some r) :
  Calls Tryd.prog 46 #[.int .u8 a0] w fun e w' => e = .returned (.int .i64 r) ∧ Drawn0 w w' := by
 have H : (if a0 ≥ 48 then (body_digit.j0 k a0 (decide (a0 ≤ 57))) else (body_digit.j0 k a0 false)) = some r := h
 clear h
 have HC2 := Aside0.mk H
 clear H
 go_enter Tryd.func46, Tryd.ntmps46
 go_upto_region 1 with (fail)
 go_cut [3] (fun v3 wc => ∃ (kq : Nat) (x3_1 : Bool), v3 = .bool x3_1 ∧ Aside0 (body_digit.j0 kq a0 x3_1 = some r) ∧ Aside0 (kq ≤ k) ∧ Drawn0 w wc)
 case first =>
  have H := HC2.out
  clear HC2
  by_cases c3 : a0 ≥ 48
  ·rw [if_pos c3] at H
   have c3b0 : decide (48 ≤ a0) = true := decide_eq_true c3
   clear c3
   (first | rw [c3b0] | (simp only [i64_w, i32_w]; rw [c3b0]) | skip)
   have H' := Aside0.mk H
   clear H
   go_wp2
   go_meet
   case rel => exact ⟨_, (decide (a0 ≤ 57)), (by first | rfl | (simp; done) | (simp [*]; done) | (simp [ne_nil_B, eq_nil_B]; done)), H', ⟨by first | omega | exact Nat.le_refl _⟩, by repeat (first | exact Drawn0.refl _ | apply Drawn0.step)⟩
  ·rw [if_neg c3] at H
   have c3b0 : decide (48 ≤ a0) = false := decide_eq_false c3
   clear c3
   (first | rw [c3b0] | (simp only [i64_w, i32_w]; rw [c3b0]) | skip)
   have H' := Aside0.mk H
   clear H
   go_wp2
   go_meet
   case rel => exact ⟨_, (false), (by first | rfl | (simp; done) | (simp [*]; done) | (simp [ne_nil_B, eq_nil_B]; done)), H', ⟨by first | omega | exact Nat.le_refl _⟩, by repeat (first | exact Drawn0.refl _ | apply Drawn0.step)⟩
 case rest =>
  clear HC2
  (try clear p2); (try clear c3); (try clear c3b0)
  obtain ⟨kq, x3_1, rfl, HA, HJ1, ⟨mc1, rfl⟩⟩ := hcut
  cases kq with
  | zero => exact absurd HA.out (by simp [body_digit.j0])
  | succ kj1 =>
   have H := HA.out
   clear HA
   simp only [body_digit.j0] at H
   by_cases c4 : x3_1 = true
   ·subst c4
    have H1 : (some ((a0 - 48) % 256)) = some r := by rw [if_pos rfl] at H; exact H
    clear H
    have H := H1
    clear H1
    obtain rfl := Option.some.inj H
    go_wp2
    go_ret
    exact ⟨by first | rfl | (simp; done) | (simp [*]; done) | (simp [ne_nil_B, eq_nil_B]; done), by repeat (first | exact Drawn0.refl _ | apply Drawn0.step)⟩
   ·replace c4 := Bool.eq_false_iff.mpr c4
    subst c4
    have H1 : (if a0 ≥ 97 then (body_digit.j1 kj1 a0 (decide (a0 ≤ 102))) else (body_digit.j1 kj1 a0 false)) = some r := by rw [if_neg (show ¬ (false = true) by decide)] at H; exact H
    clear H
    have H := H1
    clear H1
    have HC5 := Aside0.mk H
    clear H
    go_upto_region 3 with (fail)
    go_cut [13] (fun v13 wc => ∃ (kq : Nat) (x13_4 : Bool), v13 = .bool x13_4 ∧ Aside0 (body_digit.j1 kq a0 x13_4 = some r) ∧ Aside0 (kq ≤ kj1) ∧ Drawn0 w wc)
    case first =>
     have H := HC5.out
     clear HC5
     by_cases c6 : a0 ≥ 97
     ·rw [if_pos c6] at H
      have c6b0 : decide (97 ≤ a0) = true := decide_eq_true c6
      clear c6
      (first | rw [c6b0] | (simp only [i64_w, i32_w]; rw [c6b0]) | skip)
      have H' := Aside0.mk H
      clear H
      go_wp2
      go_meet
      case rel => exact ⟨_, (decide (a0 ≤ 102)), (by first | rfl | (simp; done) | (simp [*]; done) | (simp [ne_nil_B, eq_nil_B]; done)), H', ⟨by have := HJ1.out; first | omega | exact Nat.le_refl _⟩, by repeat (first | exact Drawn0.refl _ | apply Drawn0.step)⟩
     ·rw [if_neg c6] at H
      have c6b0 : decide (97 ≤ a0) = false := decide_eq_false c6
      clear c6
      (first | rw [c6b0] | (simp only [i64_w, i32_w]; rw [c6b0]) | skip)
      have H' := Aside0.mk H
      clear H
      go_wp2
      go_meet
      case rel => exact ⟨_, (false), (by first | rfl | (simp; done) | (simp [*]; done) | (simp [ne_nil_B, eq_nil_B]; done)), H', ⟨by have := HJ1.out; first | omega | exact Nat.le_refl _⟩, by repeat (first | exact Drawn0.refl _ | apply Drawn0.step)⟩
    case rest =>
     clear HC5
     (try clear c1); (try clear p2); (try clear c3); (try clear c3b0); (try clear c4); (try clear c6); (try clear c6b0); (try clear p2)
     obtain ⟨kq, x13_4, rfl, HA, HJ4, ⟨mc4, rfl⟩⟩ := hcut
     cases kq with
     | zero => exact absurd HA.out (by simp [body_digit.j1])
     | succ kj4 =>
      have H := HA.out
      clear HA
      simp only [body_digit.j1] at H
      by_cases c7 : x13_4 = true
      ·subst c7
       have H1 : (some (((a0 - 97) % 256) + 10)) = some r := by rw [if_pos rfl] at H; exact H
       clear H
       have H := H1
       clear H1
       obtain rfl := Option.some.inj H
       go_wp2
       go_ret
       exact ⟨by first | rfl | (simp; done) | (simp [*]; done) | (simp [ne_nil_B, eq_nil_B]; done), by repeat (first | exact Drawn0.refl _ | apply Drawn0.step)⟩
      ·replace c7 := Bool.eq_false_iff.mpr c7
       subst c7
       have H1 : (if a0 ≥ 65 then (if a0 ≤ 70 then (some (((a0 - 65) % 256) + 10)) else (some (-1))) else (some (-1))) = some r := by rw [if_neg (show ¬ (false = true) by decide)] at H; exact H
       clear H
       have H := H1
       clear H1
       by_cases c8 : a0 ≥ 65
       ·rw [if_pos c8] at H
        have c8b0 : decide (65 ≤ a0) = true := decide_eq_true c8
        clear c8
        by_cases c9 : a0 ≤ 70
        ·rw [if_pos c9] at H
         have c9b0 : decide (a0 ≤ 70) = true := decide_eq_true c9
         clear c9
         obtain rfl := Option.some.inj H
         go_wp2
         go_ret
         exact ⟨by first | rfl | (simp; done) | (simp [*]; done) | (simp [ne_nil_B, eq_nil_B]; done), by repeat (first | exact Drawn0.refl _ | apply Drawn0.step)⟩
        ·rw [if_neg c9] at H
         have c9b0 : decide (a0 ≤ 70) = false := decide_eq_false c9
         clear c9
         obtain rfl := Option.some.inj H
         go_wp2
         go_ret
         exact ⟨by first | rfl | (simp; done) | (simp [*]; done) | (simp [ne_nil_B, eq_nil_B]; done), by repeat (first | exact Drawn0.refl _ | apply Drawn0.step)⟩
       ·rw [if_neg c8] at H
        have c8b0 : decide (65 ≤ a0) = false := decide_eq_false c8
        clear c8
        obtain rfl := Option.some.inj H
        go_wp2
        go_ret
        exact ⟨by first | rfl | (simp; done) | (simp [*]; done) | (simp [ne_nil_B, eq_nil_B]; done), by repeat (first | exact Drawn0.refl _ | apply Drawn0.step)⟩
/-! ### body_reader_line: function 32 -/
mutual
def body_reader_line.l0 : Nat → Int → List Int → Int → Int → Option (Int × Int)
 | 0, _, _, _, _ => none
 | k + 1, x2, x1000, x1001, x1002 => if x2 < 2 then ((body_reader_more.f x1000 x1001 x1002).bind fun bt101 => (body_reader_line.j1 k x2 bt101.1 x1000 bt101.2.1 bt101.2.2)) else (body_reader_line.j1 k x2 false x1000 x1001 x1002)
def body_reader_line.j1 : Nat → Int → Bool → List Int → Int → Int → Option (Int × Int)
 | 0, _, _, _, _, _ => none
 | k + 1, x2, x8, x1000, x1001, x1002 => if x8 = true then (if 0 ≤ x1001 then (if x1001 < (x1000.length : Int) then (if 0 ≤ x2 then (if x2 < 2 then (if (rd x1000 x1001) = (bt (⟨#[13, 10]⟩ : ByteArray) x2) then (body_reader_line.l0 k (wrap64 (x2 + 1)) x1000 (wrap64 (x1001 + 1)) x1002) else (some (x1001, 21))) else (none)) else (none)) else (none)) else (none)) else (some (x1001, x1002))
end
def body_reader_line.f (k : Nat) (s0_0 : List Int) (s0_1 : Int) (s0_2 : Int) : Option (Int × Int) := body_reader_line.l0 k 0 s0_0 s0_1 s0_2
set_option maxHeartbeats 8000000 in
set_option maxRecDepth 100000 in
theorem body_reader_line.calls (k : Nat) (g : Nat) (s0_0 : List Int) (s0_1 : Int) (s0_2 : Int) (r1 : Int) (r2 : Int) (w0 w : World) (hI : IsS67 w0 w g s0_0 s0_1 s0_2) (hB : Below w0.heap.size w0 w) (h : body_reader_line.f k s0_0 s0_1 s0_2 = some (r1, r2)) :
  Calls Tryd.prog 32 #[.pointer (some ⟨g, 0, none⟩)] w fun e w' => e = .returned (.tuple #[]) ∧ IsS67 w0 w' g s0_0 r1 r2 ∧ Below w0.heap.size w0 w' ∧ KeepBut w w' g none := by
 have HI0 := Aside0.mk hI
 have HK := Aside0.mk (KeepBut.refl w g none)
 have HL := Aside0.mk hB.size
 clear hI
 have HW0 := Aside0.mk hB.size
 have HB := Aside0.mk hB
 clear hB
 have H : (body_reader_line.l0 k 0 s0_0 s0_1 s0_2) = some (r1, r2) := h
 clear h
 have H' := Aside0.mk H
 clear H
 go_enter Tryd.func32, Tryd.ntmps32
 go_wp2
 repeat (go_quiet (fail); try go_wp2)
 go_loopg [2] k (fun kq v2 w' => ∃ (x2_1 : Int) (x1001_1 : Int) (x1002_1 : Int), v2 = .int .i64 x2_1 ∧ Aside0 (body_reader_line.l0 kq x2_1 s0_0 x1001_1 x1002_1 = some (r1, r2)) ∧ Aside0 (kq ≤ k) ∧ Aside0 (IsS67 w0 w' g s0_0 x1001_1 x1002_1) ∧ Aside0 (KeepBut w w' g none) ∧ Aside0 (Below w0.heap.size w0 w'))
 case atStart => exact ⟨(0), (s0_1), (s0_2), (by first | rfl | (simp; done) | (simp [*]; done) | (simp [ne_nil_B, eq_nil_B]; done)), H', ⟨Nat.le_refl _⟩, ⟨by repeat (first | (with_reducible first | exact HI0.out | apply IsS67.alloc | apply IsS67.drewN | apply IsS67.drew | apply IsS67.set_1 | apply IsS67.set_2) | exact HI0.out)⟩, ⟨by repeat (first | (with_reducible first | exact HK.out | apply KeepBut.set_ | apply keep_drewN | apply keep_drew | apply keep_alloc) | exact HK.out)⟩, ⟨by repeat (first | (with_reducible first | exact HB.out | apply below_alloc | apply pw_below_drewN | apply below_drew1 | refine below_set ?_ (IsS67.ge HI0.out)) | exact HB.out)⟩⟩
 case round =>
  clear H'
  obtain ⟨x2_1, x1001_1, x1002_1, rfl, HA, HK1, HI0, HK, HB⟩ := hrel
  cases gk with
  | zero => exact absurd HA.out (by simp [body_reader_line.l0])
  | succ k1 =>
   have H := HA.out
   clear HA
   simp only [body_reader_line.l0] at H
   have HC2 := Aside0.mk H
   clear H
   go_upto_region 1 with (fail)
   repeat (go_quiet (fail); go_upto_region 1 with (fail))
   go_cut [8] (fun v8 wc => ∃ (kq : Nat) (x8_1 : Bool) (x1001_1 : Int) (x1002_1 : Int), v8 = .bool x8_1 ∧ Aside0 (body_reader_line.j1 kq x2_1 x8_1 s0_0 x1001_1 x1002_1 = some (r1, r2)) ∧ Aside0 (kq ≤ k1) ∧ Aside0 (IsS67 w0 wc g s0_0 x1001_1 x1002_1) ∧ Aside0 (KeepBut w wc g none) ∧ Aside0 (Below w0.heap.size w0 wc))
   case first =>
    have H := HC2.out
    clear HC2
    by_cases c3 : x2_1 < 2
    ·rw [if_pos c3] at H
     have c3b0 : decide (x2_1 < 2) = true := decide_eq_true c3
     clear c3
     (first | rw [c3b0] | (simp only [i64_w, i32_w]; rw [c3b0]) | skip)
     replace H := Option.bind_eq_some_iff.mp H
     obtain ⟨⟨t101, t102, t103⟩, A40, H⟩ := H
     (try dsimp only at H)
     have A4 := Aside0.mk A40
     clear A40
     have H' := Aside0.mk H
     clear H
     go_wp2_with (first | (go_at_call 45; (with_reducible refine (body_reader_more.calls g s0_0 x1001_1 x1002_1 t101 t102 t103 w0 _ ?side1 ?side2 A4.out).mono ?_); (case side1 => repeat (first | (with_reducible first | exact HI0.out | apply IsS67.alloc | apply IsS67.drewN | apply IsS67.drew | apply IsS67.set_1 | apply IsS67.set_2) | exact HI0.out)); (case side2 => repeat (first | (with_reducible first | exact HB.out | apply below_alloc | apply pw_below_drewN | apply below_drew1 | refine below_set ?_ (IsS67.ge HI0.out)) | exact HB.out)); rintro e w5 ⟨rfl, hi, hb, hk⟩; have n0_ := Aside0.mk (KeepBut.trans (by repeat (first | (with_reducible first | exact HK.out | apply KeepBut.set_ | apply keep_drewN | apply keep_drew | apply keep_alloc) | exact HK.out)) hk (.inl rfl)); have n1_ := Aside0.mk (hb); have n2_ := Aside0.mk (hi); clear HK; clear HB; clear HI0; have HK := n0_; have HB := n1_; have HI0 := n2_; clear n0_ n1_ n2_; (try clear hb); (try clear hb2); (try clear hk); (try clear hi)))
     repeat (go_quiet (first | (go_at_call 45; (with_reducible refine (body_reader_more.calls g s0_0 x1001_1 x1002_1 t101 t102 t103 w0 _ ?side1 ?side2 A4.out).mono ?_); (case side1 => repeat (first | (with_reducible first | exact HI0.out | apply IsS67.alloc | apply IsS67.drewN | apply IsS67.drew | apply IsS67.set_1 | apply IsS67.set_2) | exact HI0.out)); (case side2 => repeat (first | (with_reducible first | exact HB.out | apply below_alloc | apply pw_below_drewN | apply below_drew1 | refine below_set ?_ (IsS67.ge HI0.out)) | exact HB.out)); rintro e w5 ⟨rfl, hi, hb, hk⟩; have n0_ := Aside0.mk (KeepBut.trans (by repeat (first | (with_reducible first | exact HK.out | apply KeepBut.set_ | apply keep_drewN | apply keep_drew | apply keep_alloc) | exact HK.out)) hk (.inl rfl)); have n1_ := Aside0.mk (hb); have n2_ := Aside0.mk (hi); clear HK; clear HB; clear HI0; have HK := n0_; have HB := n1_; have HI0 := n2_; clear n0_ n1_ n2_; (try clear hb); (try clear hb2); (try clear hk); (try clear hi))); try go_wp2_with (first | (go_at_call 45; (with_reducible refine (body_reader_more.calls g s0_0 x1001_1 x1002_1 t101 t102 t103 w0 _ ?side1 ?side2 A4.out).mono ?_); (case side1 => repeat (first | (with_reducible first | exact HI0.out | apply IsS67.alloc | apply IsS67.drewN | apply IsS67.drew | apply IsS67.set_1 | apply IsS67.set_2) | exact HI0.out)); (case side2 => repeat (first | (with_reducible first | exact HB.out | apply below_alloc | apply pw_below_drewN | apply below_drew1 | refine below_set ?_ (IsS67.ge HI0.out)) | exact HB.out)); rintro e w5 ⟨rfl, hi, hb, hk⟩; have n0_ := Aside0.mk (KeepBut.trans (by repeat (first | (with_reducible first | exact HK.out | apply KeepBut.set_ | apply keep_drewN | apply keep_drew | apply keep_alloc) | exact HK.out)) hk (.inl rfl)); have n1_ := Aside0.mk (hb); have n2_ := Aside0.mk (hi); clear HK; clear HB; clear HI0; have HK := n0_; have HB := n1_; have HI0 := n2_; clear n0_ n1_ n2_; (try clear hb); (try clear hb2); (try clear hk); (try clear hi))))
     go_meet
     case rel => exact ⟨_, (t101), (t102), (t103), (by first | rfl | (simp; done) | (simp [*]; done) | (simp [ne_nil_B, eq_nil_B]; done)), H', ⟨by have := HK1.out; first | omega | exact Nat.le_refl _⟩, ⟨by repeat (first | (with_reducible first | exact HI0.out | apply IsS67.alloc | apply IsS67.drewN | apply IsS67.drew | apply IsS67.set_1 | apply IsS67.set_2) | exact HI0.out)⟩, ⟨by repeat (first | (with_reducible first | exact HK.out | apply KeepBut.set_ | apply keep_drewN | apply keep_drew | apply keep_alloc) | exact HK.out)⟩, ⟨by repeat (first | (with_reducible first | exact HB.out | apply below_alloc | apply pw_below_drewN | apply below_drew1 | refine below_set ?_ (IsS67.ge HI0.out)) | exact HB.out)⟩⟩
    ·rw [if_neg c3] at H
     have c3b0 : decide (x2_1 < 2) = false := decide_eq_false c3
     clear c3
     (first | rw [c3b0] | (simp only [i64_w, i32_w]; rw [c3b0]) | skip)
     have H' := Aside0.mk H
     clear H
     go_wp2
     repeat (go_quiet (fail); try go_wp2)
     go_meet
     case rel => exact ⟨_, (false), (x1001_1), (x1002_1), (by first | rfl | (simp; done) | (simp [*]; done) | (simp [ne_nil_B, eq_nil_B]; done)), H', ⟨by have := HK1.out; first | omega | exact Nat.le_refl _⟩, ⟨by repeat (first | (with_reducible first | exact HI0.out | apply IsS67.alloc | apply IsS67.drewN | apply IsS67.drew | apply IsS67.set_1 | apply IsS67.set_2) | exact HI0.out)⟩, ⟨by repeat (first | (with_reducible first | exact HK.out | apply KeepBut.set_ | apply keep_drewN | apply keep_drew | apply keep_alloc) | exact HK.out)⟩, ⟨by repeat (first | (with_reducible first | exact HB.out | apply below_alloc | apply pw_below_drewN | apply below_drew1 | refine below_set ?_ (IsS67.ge HI0.out)) | exact HB.out)⟩⟩
   case rest =>
    clear HC2
    (try clear p2); (try clear c3); (try clear c3b0)
    obtain ⟨kq, x8_1, x1001_1, x1002_1, rfl, HA, HJ1, HI0, HK, HB⟩ := hcut
    cases kq with
    | zero => exact absurd HA.out (by simp [body_reader_line.j1])
    | succ kj1 =>
     have H := HA.out
     clear HA
     simp only [body_reader_line.j1] at H
     by_cases c6 : x8_1 = true
     ·subst c6
      have H1 : (if 0 ≤ x1001_1 then (if x1001_1 < (s0_0.length : Int) then (if 0 ≤ x2_1 then (if x2_1 < 2 then (if (rd s0_0 x1001_1) = (bt (⟨#[13, 10]⟩ : ByteArray) x2_1) then (body_reader_line.l0 kj1 (wrap64 (x2_1 + 1)) s0_0 (wrap64 (x1001_1 + 1)) x1002_1) else (some (x1001_1, 21))) else (none)) else (none)) else (none)) else (none)) = some (r1, r2) := by rw [if_pos rfl] at H; exact H
      clear H
      have H := H1
      clear H1
      by_cases c7 : 0 ≤ x1001_1
      ·rw [if_pos c7] at H
       have c7b0 : decide (0 ≤ x1001_1) = true := decide_eq_true c7
       clear c7
       by_cases c8 : x1001_1 < (s0_0.length : Int)
       ·rw [if_pos c8] at H
        have c8b0 : decide (x1001_1 < (s0_0.length : Int)) = true := decide_eq_true c8
        clear c8
        by_cases c9 : 0 ≤ x2_1
        ·rw [if_pos c9] at H
         have c9b0 : decide (0 ≤ x2_1) = true := decide_eq_true c9
         clear c9
         by_cases c10 : x2_1 < 2
         ·rw [if_pos c10] at H
          have c10b0 : decide (x2_1 < 2) = true := decide_eq_true c10
          clear c10
          by_cases c12 : (rd s0_0 x1001_1) = (bt (⟨#[13, 10]⟩ : ByteArray) x2_1)
          ·rw [if_pos c12] at H
           have c12b0 : ((rd s0_0 x1001_1) == (bt (⟨#[13, 10]⟩ : ByteArray) x2_1)) = true := beq_iff_eq.mpr c12
           have c12b1 : ((rd s0_0 x1001_1) != (bt (⟨#[13, 10]⟩ : ByteArray) x2_1)) = false := bne_eq_false_iff_eq.mpr c12
           clear c12
           have H' := Aside0.mk H
           clear H
           obtain ⟨ASz13_0, cSz13_0, HGz13, hgz13, HSz13_0⟩ := HI0.out
           have hcz13_0 := cellS67_0 HGz13
           have hcz13_1 := cellS67_1 HGz13
           have hcz13_2 := cellS67_2 HGz13
           have hfz13_1 := blk_frozen HGz13 1
           have hfz13_2 := blk_frozen HGz13 2
           clear HGz13 hgz13
           have p104 : 0 ≤ (x1001_1 : Int) := of_decide_eq_true (by assumption)
           have q104 : x1001_1 < (s0_0.length : Int) := of_decide_eq_true (by assumption)
           obtain ⟨ad104, e104, hx104_0⟩ := Kd.at_int HSz13_0 x1001_1 p104 q104
           cases e104
           replace hx104_0 := pw_cell_below HB.out hx104_0
           replace p104 := eq_true p104
           replace q104 := eq_true q104
           have p11 : 0 ≤ (x2_1 : Int) := of_decide_eq_true (by assumption)
           have q11 : x2_1 < (2 : Int) := of_decide_eq_true (by assumption)
           have hx11 := bt_at (⟨#[13, 10]⟩ : ByteArray) x2_1
           replace p11 := eq_true p11
           replace q11 := eq_true q11
           go_wp2
           repeat (go_quiet (fail); try go_wp2)
           go_roundg kj1
           case measure => have := HK1.out; have := HJ1.out; omega
           case rel => exact ⟨(wrap64 (x2_1 + 1)), (wrap64 (x1001_1 + 1)), (x1002_1), (by first | rfl | (simp; done) | (simp [*]; done) | (simp [ne_nil_B, eq_nil_B]; done)), H', ⟨by have := HK1.out; have := HJ1.out; omega⟩, ⟨by repeat (first | (with_reducible first | exact HI0.out | apply IsS67.alloc | apply IsS67.drewN | apply IsS67.drew | apply IsS67.set_1 | apply IsS67.set_2) | exact HI0.out)⟩, ⟨by repeat (first | (with_reducible first | exact HK.out | apply KeepBut.set_ | apply keep_drewN | apply keep_drew | apply keep_alloc) | exact HK.out)⟩, ⟨by repeat (first | (with_reducible first | exact HB.out | apply below_alloc | apply pw_below_drewN | apply below_drew1 | refine below_set ?_ (IsS67.ge HI0.out)) | exact HB.out)⟩⟩
          ·rw [if_neg c12] at H
           have c12b0 : ((rd s0_0 x1001_1) == (bt (⟨#[13, 10]⟩ : ByteArray) x2_1)) = false := beq_eq_false_iff_ne.mpr c12
           have c12b1 : ((rd s0_0 x1001_1) != (bt (⟨#[13, 10]⟩ : ByteArray) x2_1)) = true := bne_iff_ne.mpr c12
           simp only [Option.some.injEq, Prod.mk.injEq] at H
           obtain ⟨rfl, rfl⟩ := H
           obtain ⟨ASz14_0, cSz14_0, HGz14, hgz14, HSz14_0⟩ := HI0.out
           have hcz14_0 := cellS67_0 HGz14
           have hcz14_1 := cellS67_1 HGz14
           have hcz14_2 := cellS67_2 HGz14
           have hfz14_1 := blk_frozen HGz14 1
           have hfz14_2 := blk_frozen HGz14 2
           clear HGz14 hgz14
           have p104 : 0 ≤ (x1001_1 : Int) := of_decide_eq_true (by assumption)
           have q104 : x1001_1 < (s0_0.length : Int) := of_decide_eq_true (by assumption)
           obtain ⟨ad104, e104, hx104_0⟩ := Kd.at_int HSz14_0 x1001_1 p104 q104
           cases e104
           replace hx104_0 := pw_cell_below HB.out hx104_0
           replace p104 := eq_true p104
           replace q104 := eq_true q104
           have p11 : 0 ≤ (x2_1 : Int) := of_decide_eq_true (by assumption)
           have q11 : x2_1 < (2 : Int) := of_decide_eq_true (by assumption)
           have hx11 := bt_at (⟨#[13, 10]⟩ : ByteArray) x2_1
           replace p11 := eq_true p11
           replace q11 := eq_true q11
           go_wp2
           repeat (go_quiet (fail); try go_wp2)
           first | go_end0 | ((try simp only [Exit.inBlock, Exit.then]); refine bodyPost_ret (results_none rfl _ _ _) rfl ?_)
           exact ⟨by first | rfl | (simp <;> rfl) | (simp [*] <;> rfl) | (simp [ne_nil_B, eq_nil_B]; done) | (simp [ne_nil_B, eq_nil_B] <;> rfl), by repeat (first | (with_reducible first | exact HI0.out | apply IsS67.alloc | apply IsS67.drewN | apply IsS67.drew | apply IsS67.set_1 | apply IsS67.set_2) | exact HI0.out), by repeat (first | (with_reducible first | exact HB.out | apply below_alloc | apply pw_below_drewN | apply below_drew1 | refine below_set ?_ (IsS67.ge HI0.out)) | exact HB.out), by repeat (first | (with_reducible first | exact HK.out | apply KeepBut.set_ | apply keep_drewN | apply keep_drew | apply keep_alloc) | exact HK.out)⟩
         ·rw [if_neg c10] at H
          exact absurd H (by simp)
        ·rw [if_neg c9] at H
         exact absurd H (by simp)
       ·rw [if_neg c8] at H
        exact absurd H (by simp)
      ·rw [if_neg c7] at H
       exact absurd H (by simp)
     ·replace c6 := Bool.eq_false_iff.mpr c6
      subst c6
      have H1 : (some (x1001_1, x1002_1)) = some (r1, r2) := by rw [if_neg (show ¬ (false = true) by decide)] at H; exact H
      clear H
      have H := H1
      clear H1
      simp only [Option.some.injEq, Prod.mk.injEq] at H
      obtain ⟨rfl, rfl⟩ := H
      go_wp2
      repeat (go_quiet (fail); try go_wp2)
      first | go_end0 | ((try simp only [Exit.inBlock, Exit.then]); refine bodyPost_ret (results_none rfl _ _ _) rfl ?_)
      exact ⟨by first | rfl | (simp <;> rfl) | (simp [*] <;> rfl) | (simp [ne_nil_B, eq_nil_B]; done) | (simp [ne_nil_B, eq_nil_B] <;> rfl), by repeat (first | (with_reducible first | exact HI0.out | apply IsS67.alloc | apply IsS67.drewN | apply IsS67.drew | apply IsS67.set_1 | apply IsS67.set_2) | exact HI0.out), by repeat (first | (with_reducible first | exact HB.out | apply below_alloc | apply pw_below_drewN | apply below_drew1 | refine below_set ?_ (IsS67.ge HI0.out)) | exact HB.out), by repeat (first | (with_reducible first | exact HK.out | apply KeepBut.set_ | apply keep_drewN | apply keep_drew | apply keep_alloc) | exact HK.out)⟩
/-! ### body_reader_size: function 31 -/
def digV (c : Int) : Int := if 48 ≤ c ∧ c ≤ 57 then c - 48 else if 97 ≤ c ∧ c ≤ 102 then c - 87 else if 65 ≤ c ∧ c ≤ 70 then c - 55 else -1
theorem digit_call (w : World) (c : Int) (h0 : 0 ≤ c) (h1 : c ≤ 255) : Calls Tryd.prog 46 #[.int .u8 c] w fun e w' => e = .returned (.int .i64 (digV c)) ∧ Drawn0 w w' := by
 have h : body_digit.f 3 c = some (digV c) := by
  simp only [body_digit.f, body_digit.j0, body_digit.j1, digV]
  by_cases a1 : 48 ≤ c <;> by_cases a2 : c ≤ 57 <;> by_cases a3 : 97 ≤ c <;> by_cases a4 : c ≤ 102 <;> by_cases a5 : 65 ≤ c <;> by_cases a6 : c ≤ 70 <;> simp [*] <;> omega
 exact body_digit.calls 3 c (digV c) w h
theorem more_true (w : World) (g : Nat) (A0 : Option Addr) (n c0 : Nat) (at_ : Int) (h0 : w.cell? ⟨g, 0, none⟩ = some (.slice A0 n c0)) (h1 : w.cell? ⟨g, 1, none⟩ = some (.int .i64 at_)) (h2 : w.cell? ⟨g, 2, none⟩ = some (.int .i64 0)) (ha : at_ ≠ (n : Int)) :
  Calls Tryd.prog 45 #[.pointer (some ⟨g, 0, none⟩)] w fun e w' => e = .returned (.bool true) ∧ Drawn0 w w' := by
 have hn : (at_ == (n : Int)) = false := by simpa using ha
 clear ha
 go_enter Tryd.func45, Tryd.ntmps45
 go_wp2
 repeat (go_quiet (fail); try go_wp2)
 go_ret
 exact ⟨rfl, ⟨⟨_, rfl⟩⟩⟩
theorem more_false (w : World) (g : Nat) (A0 : Option Addr) (n c0 : Nat) (at_ e_ : Int) (h0 : w.cell? ⟨g, 0, none⟩ = some (.slice A0 n c0)) (h1 : w.cell? ⟨g, 1, none⟩ = some (.int .i64 at_)) (h2 : w.cell? ⟨g, 2, none⟩ = some (.int .i64 e_)) (he : e_ ≠ 0) :
  Calls Tryd.prog 45 #[.pointer (some ⟨g, 0, none⟩)] w fun e w' => e = .returned (.bool false) ∧ Drawn0 w w' := by
 have hn : (e_ == 0) = false := by simpa using he
 clear he
 go_enter Tryd.func45, Tryd.ntmps45
 go_wp2
 repeat (go_quiet (fail); try go_wp2)
 go_ret
 exact ⟨by first | rfl | simp [*], ⟨⟨_, rfl⟩⟩⟩
def body_reader_size.fin (s : List Int) (n c at_ e : Int) : Option (Int × Int × Int) := (body_reader_line.f 6 s at_ (if e = 0 ∧ c = 0 then 21 else e)).bind fun p => some (n, p.1, p.2)
def body_reader_size.l : Nat → List Int → Int → Int → Int → Int → Option (Int × Int × Int)
 | 0, _, _, _, _, _ => none
 | k + 1, s, n, c, at_, e =>
  if e = 0 then
   if at_ = (s.length : Int) then body_reader_size.fin s n c at_ 20
   else if 0 ≤ at_ ∧ at_ < (s.length : Int) ∧ 0 ≤ rd s at_ ∧ rd s at_ ≤ 255 then
    if 0 ≤ digV (rd s at_) then
     if c = 8 then some (0, at_, 21)
     else body_reader_size.l k s (Go.bits .or .i64 (wrap64 (n * 16)) (digV (rd s at_))) (wrap64 (c + 1)) (wrap64 (at_ + 1)) 0
    else body_reader_size.fin s n c at_ 0
   else none
  else body_reader_size.fin s n c at_ e
def body_reader_size.f (s : List Int) (at_ e : Int) : Option (Int × Int × Int) := body_reader_size.l 10 s 0 0 at_ e
set_option maxHeartbeats 8000000 in
set_option maxRecDepth 100000 in
theorem body_reader_size.calls (g : Nat) (s0_0 : List Int) (s0_1 : Int) (s0_2 : Int) (r1 : Int) (r2 : Int) (r3 : Int) (w0 w : World) (hI : IsS67 w0 w g s0_0 s0_1 s0_2) (hB : Below w0.heap.size w0 w) (h : body_reader_size.f s0_0 s0_1 s0_2 = some (r1, r2, r3)) :
  Calls Tryd.prog 31 #[.pointer (some ⟨g, 0, none⟩)] w fun e w' => e = .returned (.int .i64 r1) ∧ IsS67 w0 w' g s0_0 r2 r3 ∧ Below w0.heap.size w0 w' ∧ KeepBut w w' g none := by
 have HI0 := Aside0.mk hI
 have HK := Aside0.mk (KeepBut.refl w g none)
 have HL := Aside0.mk hB.size
 clear hI
 have HW0 := Aside0.mk hB.size
 have HB := Aside0.mk hB
 clear hB
 unfold body_reader_size.f at h
 have H' := Aside0.mk h
 clear h
 go_enter Tryd.func31, Tryd.ntmps31
 go_wp2
 repeat (go_quiet (fail); try go_wp2)
 go_loopg [3, 4] 10 (fun kq v3 v4 w' => ∃ (n c at_ e_ : Int), v3 = .int .i64 n ∧ v4 = .int .i64 c ∧ Aside0 (body_reader_size.l kq s0_0 n c at_ e_ = some (r1, r2, r3)) ∧ Aside0 (IsS67 w0 w' g s0_0 at_ e_) ∧ Aside0 (KeepBut w w' g none) ∧ Aside0 (Below w0.heap.size w0 w'))
 case atStart => exact ⟨0, 0, _, _, rfl, rfl, H', HI0, HK, HB⟩
 case round =>
  clear H' HI0 HK HB
  obtain ⟨n, c, at_, e_, rfl, rfl, HA, HI0, HK, HB⟩ := hrel
  cases gk with
  | zero => exact absurd HA.out (by simp [body_reader_size.l])
  | succ k1 =>
   have H := HA.out
   clear HA
   simp only [body_reader_size.l] at H
   by_cases he : e_ = 0
   ·subst he
    rw [if_pos rfl] at H
    by_cases ha : at_ = (s0_0.length : Int)
    ·rw [if_pos ha] at H
     have Hmore : body_reader_more.f s0_0 at_ 0 = some (false, at_, 20) := by simp [body_reader_more.f, ha]
     have Hmore := Aside0.mk Hmore
     have HX := Aside0.mk H
     clear H ha
     go_wp2
     refine start_ (n := 16) (S := fun _ => True) (ds := []) #[false, false, false, false, false, false, false, false, false, false, false, false, false, false, false, false] (by kernel_rfl) rfl rfl trivial (fun _ => ?_)
     refine pure_ (i := 0) (N := some 5) (v := ?_) (a' := ?_) #[true, false, false, false, false, false, false, false, false, false, false, false, false, false, false, false] rfl rfl (by kernel_rfl) (fun _ _ _ h => h) (Or.inl ⟨by rfl, ?_⟩) ?_ ?_
     rotate_left
     ·intro w'
      go_simp
      with_reducible rfl
     rotate_left
     ·simp only [Act.put, List.setIfInBounds_toArray, List.set_cons_zero, List.set_cons_succ, i64_w, i32_w]
      rfl
     refine one_ (i := 1) (N := some 6) #[true, true, false, false, false, false, false, false, false, false, false, false, false, false, false, false] rfl rfl (by kernel_rfl) (by decide) (fun K hK => ?_)
     refine goes_ Tryd.func45 (by kernel_rfl) rfl #[.pointer (some ⟨g, 0, none⟩)] (by rfl) rfl rfl (by (try simp only [List.map_toArray, List.map_cons, List.map_nil]); first | done | rfl) ?_
     refine (body_reader_more.calls g s0_0 at_ 0 false at_ 20 w0 _ (IsS67.drew HI0.out) (below_drew1 HB.out) Hmore.out).mono ?_
     rintro e w5 ⟨rfl, hi, hb, hk⟩
     refine ⟨_, rfl, ?_⟩
     have n0_ := Aside0.mk (KeepBut.trans (keep_drew HK.out) hk (.inl rfl))
     have n1_ := Aside0.mk hi
     have n2_ := Aside0.mk hb
     clear hi hb hk HK HI0 HB
     have HI0 := n1_
     have HB := n2_
     have HK := n0_
     clear n0_ n1_ n2_
     refine hK.out _ _ trivial (fun _ => ?_)
     clear hK K
     refine norm_ (a' := ?_) ?_ ?_
     rotate_left
     ·show Act.put _ (some 6) _ = _
      simp only [Act.put, List.setIfInBounds_toArray, List.set_cons_zero, List.set_cons_succ, i64_w, i32_w]
      rfl
     refine pure_ (i := 2) (N := some 7) (v := ?_) (a' := ?_) #[true, true, true, false, false, false, false, false, false, false, false, false, false, false, false, false] rfl rfl (by kernel_rfl) (fun _ _ _ h => h) (Or.inl ⟨by rfl, ?_⟩) ?_ ?_
     rotate_left
     ·intro w'
      go_simp
      with_reducible rfl
     rotate_left
     ·simp only [Act.put, List.setIfInBounds_toArray, List.set_cons_zero, List.set_cons_succ, i64_w, i32_w]
      rfl
     refine pure_ (i := 3) (N := some 8) (v := undef) (a' := ?_) #[true, true, true, true, false, false, false, false, false, false, false, false, false, false, false, false] rfl rfl (by kernel_rfl) (fun _ _ _ h => h) (Or.inr ⟨by rfl, rfl⟩) ?_ ?_
     rotate_left
     ·simp only [Act.put, List.setIfInBounds_toArray, List.set_cons_zero, List.set_cons_succ, i64_w, i32_w]
      rfl
     refine pure_ (i := 4) (N := some 9) (v := undef) (a' := ?_) #[true, true, true, true, true, false, false, false, false, false, false, false, false, false, false, false] rfl rfl (by kernel_rfl) (fun _ _ _ h => h) (Or.inr ⟨by rfl, rfl⟩) ?_ ?_
     rotate_left
     ·simp only [Act.put, List.setIfInBounds_toArray, List.set_cons_zero, List.set_cons_succ, i64_w, i32_w]
      rfl
     refine pure_ (i := 5) (N := some 10) (v := undef) (a' := ?_) #[true, true, true, true, true, true, false, false, false, false, false, false, false, false, false, false] rfl rfl (by kernel_rfl) (fun _ _ _ h => h) (Or.inr ⟨by rfl, rfl⟩) ?_ ?_
     rotate_left
     ·simp only [Act.put, List.setIfInBounds_toArray, List.set_cons_zero, List.set_cons_succ, i64_w, i32_w]
      rfl
     refine pure_ (i := 6) (N := some 11) (v := undef) (a' := ?_) #[true, true, true, true, true, true, true, false, false, false, false, false, false, false, false, false] rfl rfl (by kernel_rfl) (fun _ _ _ h => h) (Or.inr ⟨by rfl, rfl⟩) ?_ ?_
     rotate_left
     ·simp only [Act.put, List.setIfInBounds_toArray, List.set_cons_zero, List.set_cons_succ, i64_w, i32_w]
      rfl
     refine pure_ (i := 7) (N := some 12) (v := undef) (a' := ?_) #[true, true, true, true, true, true, true, true, false, false, false, false, false, false, false, false] rfl rfl (by kernel_rfl) (fun _ _ _ h => h) (Or.inr ⟨by rfl, rfl⟩) ?_ ?_
     rotate_left
     ·simp only [Act.put, List.setIfInBounds_toArray, List.set_cons_zero, List.set_cons_succ, i64_w, i32_w]
      rfl
     refine pure_ (i := 8) (N := some 13) (v := undef) (a' := ?_) #[true, true, true, true, true, true, true, true, true, false, false, false, false, false, false, false] rfl rfl (by kernel_rfl) (fun _ _ _ h => h) (Or.inr ⟨by rfl, rfl⟩) ?_ ?_
     rotate_left
     ·simp only [Act.put, List.setIfInBounds_toArray, List.set_cons_zero, List.set_cons_succ, i64_w, i32_w]
      rfl
     refine pure_ (i := 9) (N := some 14) (v := undef) (a' := ?_) #[true, true, true, true, true, true, true, true, true, true, false, false, false, false, false, false] rfl rfl (by kernel_rfl) (fun _ _ _ h => h) (Or.inr ⟨by rfl, rfl⟩) ?_ ?_
     rotate_left
     ·simp only [Act.put, List.setIfInBounds_toArray, List.set_cons_zero, List.set_cons_succ, i64_w, i32_w]
      rfl
     refine pure_ (i := 10) (N := some 15) (v := undef) (a' := ?_) #[true, true, true, true, true, true, true, true, true, true, true, false, false, false, false, false] rfl rfl (by kernel_rfl) (fun _ _ _ h => h) (Or.inr ⟨by rfl, rfl⟩) ?_ ?_
     rotate_left
     ·simp only [Act.put, List.setIfInBounds_toArray, List.set_cons_zero, List.set_cons_succ, i64_w, i32_w]
      rfl
     refine pure_ (i := 11) (N := some 16) (v := undef) (a' := ?_) #[true, true, true, true, true, true, true, true, true, true, true, true, false, false, false, false] rfl rfl (by kernel_rfl) (fun _ _ _ h => h) (Or.inr ⟨by rfl, rfl⟩) ?_ ?_
     rotate_left
     ·simp only [Act.put, List.setIfInBounds_toArray, List.set_cons_zero, List.set_cons_succ, i64_w, i32_w]
      rfl
     refine pure_ (i := 12) (N := some 17) (v := undef) (a' := ?_) #[true, true, true, true, true, true, true, true, true, true, true, true, true, false, false, false] rfl rfl (by kernel_rfl) (fun _ _ _ h => h) (Or.inr ⟨by rfl, rfl⟩) ?_ ?_
     rotate_left
     ·simp only [Act.put, List.setIfInBounds_toArray, List.set_cons_zero, List.set_cons_succ, i64_w, i32_w]
      rfl
     refine pure_ (i := 13) (N := some 18) (v := undef) (a' := ?_) #[true, true, true, true, true, true, true, true, true, true, true, true, true, true, false, false] rfl rfl (by kernel_rfl) (fun _ _ _ h => h) (Or.inr ⟨by rfl, rfl⟩) ?_ ?_
     rotate_left
     ·simp only [Act.put, List.setIfInBounds_toArray, List.set_cons_zero, List.set_cons_succ, i64_w, i32_w]
      rfl
     refine pure_ (i := 14) (N := some 19) (v := undef) (a' := ?_) #[true, true, true, true, true, true, true, true, true, true, true, true, true, true, true, false] rfl rfl (by kernel_rfl) (fun _ _ _ h => h) (Or.inr ⟨by rfl, rfl⟩) ?_ ?_
     rotate_left
     ·simp only [Act.put, List.setIfInBounds_toArray, List.set_cons_zero, List.set_cons_succ, i64_w, i32_w]
      rfl
     refine pure_ (i := 15) (N := some 20) (v := ?_) (a' := ?_) #[true, true, true, true, true, true, true, true, true, true, true, true, true, true, true, true] rfl rfl (by kernel_rfl) (fun _ _ _ h => h) (Or.inl ⟨by rfl, ?_⟩) ?_ ?_
     rotate_left
     ·intro w'
      go_simp
      with_reducible rfl
     rotate_left
     ·simp only [Act.put, List.setIfInBounds_toArray, List.set_cons_zero, List.set_cons_succ, i64_w, i32_w]
      rfl
     refine done_ (by kernel_rfl) ?_
     have H := HX.out
     unfold body_reader_size.fin at H
     rw [if_neg (fun h_ => by have := h_.1; omega)] at H
     replace H := Option.bind_eq_some_iff.mp H
     obtain ⟨⟨p1, p2⟩, AL0, H⟩ := H
     have AL := Aside0.mk AL0
     clear AL0 HX
     simp only [Option.some.injEq, Prod.mk.injEq] at H
     obtain ⟨rfl, rfl, rfl⟩ := H
     obtain ⟨Az, cz, HGz, hgz, HSz⟩ := HI0.out
     have hcz0 := cellS67_0 HGz
     have hcz1 := cellS67_1 HGz
     have hcz2 := cellS67_2 HGz
     have hfz1 := blk_frozen HGz 1
     have hfz2 := blk_frozen HGz 2
     clear HGz hgz HSz
     go_wp2_with (go_at_call 32; (with_reducible refine (body_reader_line.calls 6 g s0_0 at_ 20 p1 p2 w0 _ ?side1 ?side2 AL.out).mono ?_); (case side1 => repeat (first | (with_reducible first | exact HI0.out | apply IsS67.alloc | apply IsS67.drewN | apply IsS67.drew | apply IsS67.set_1 | apply IsS67.set_2) | exact HI0.out)); (case side2 => repeat (first | (with_reducible first | exact HB.out | apply below_alloc | apply pw_below_drewN | apply below_drew1 | refine below_set ?_ (IsS67.ge HI0.out)) | exact HB.out)); rintro e w9 ⟨rfl, hi, hb, hk⟩; have n0_ := Aside0.mk (KeepBut.trans (by repeat (first | (with_reducible first | exact HK.out | apply KeepBut.set_ | apply keep_drewN | apply keep_drew | apply keep_alloc) | exact HK.out)) hk (.inl rfl)); have n1_ := Aside0.mk hi; have n2_ := Aside0.mk hb; clear hi hb hk HK HI0 HB; have HI0 := n1_; have HB := n2_; have HK := n0_; clear n0_ n1_ n2_)
     go_ret
     exact ⟨rfl, HI0.out, HB.out, HK.out⟩
    ·rw [if_neg ha] at H
     by_cases hb : 0 ≤ at_ ∧ at_ < (s0_0.length : Int) ∧ 0 ≤ rd s0_0 at_ ∧ rd s0_0 at_ ≤ 255
     ·rw [if_pos hb] at H
      obtain ⟨hb0, hb1, hd0, hd1⟩ := hb
      have A5 := Aside0.mk (fun w => digit_call w _ hd0 hd1)
      obtain ⟨A0, c0, HG, hge, HS⟩ := HI0.out
      have hc0 := cellS67_0 HG
      have hc1 := cellS67_1 HG
      have hc2 := cellS67_2 HG
      have A4 := Aside0.mk ha
      obtain ⟨ad, ead, hx⟩ := Kd.at_int HS at_ hb0 hb1
      cases ead
      replace hx := pw_cell_below HB.out hx
      clear ha hd0 hd1
      have HX := Aside0.mk H
      clear H
      replace hb0 := eq_true hb0
      replace hb1 := eq_true hb1
      go_wp2
      go_quiet (first | (go_at_call 45; refine (more_true _ g (some ad) s0_0.length c0 at_ (by exact hc0) (by exact hc1) (by exact hc2) A4.out).mono ?_; rintro e w5 ⟨rfl, ⟨nd, rfl⟩⟩; (try first | exact ⟨rfl, _, World.drewN_drewN _ _ _⟩ | exact ⟨rfl, _, Eq.trans (World.drewN_drewN _ _ _) (congrArg (World.drewN _) (Nat.add_assoc _ _ _))⟩)) | (go_at_call 46; refine (A5.out _).mono ?_; rintro e w6 ⟨rfl, ⟨nd, rfl⟩⟩; (try first | exact ⟨rfl, _, World.drewN_drewN _ _ _⟩ | exact ⟨rfl, _, Eq.trans (World.drewN_drewN _ _ _) (congrArg (World.drewN _) (Nat.add_assoc _ _ _))⟩)))
      by_cases hd : 0 ≤ digV (rd s0_0 at_)
      ·have H := HX.out
       rw [if_pos hd] at H
       have hdb : decide (0 ≤ digV (rd s0_0 at_)) = true := decide_eq_true hd
       clear hd HX
       rw [hdb]
       clear hdb
       have hfz1 := blk_frozen HG 1
       have hfz2 := blk_frozen HG 2
       by_cases hc8 : c = 8
       ·rw [if_pos hc8] at H
        subst hc8
        simp only [Option.some.injEq, Prod.mk.injEq] at H
        obtain ⟨rfl, rfl, rfl⟩ := H
        go_wp2
        go_ret
        exact ⟨rfl, by repeat (first | (with_reducible first | exact HI0.out | apply IsS67.alloc | apply IsS67.drewN | apply IsS67.drew | apply IsS67.set_1 | apply IsS67.set_2) | exact HI0.out), by repeat (first | (with_reducible first | exact HB.out | apply below_alloc | apply pw_below_drewN | apply below_drew1 | refine below_set ?_ (IsS67.ge HI0.out)) | exact HB.out), by repeat (first | (with_reducible first | exact HK.out | apply KeepBut.set_ | apply keep_drewN | apply keep_drew | apply keep_alloc) | exact HK.out)⟩
       ·rw [if_neg hc8] at H
        have hcb : (c == 8) = false := beq_false_of_ne hc8
        clear hc8
        have HX := Aside0.mk H
        clear H
        go_wp2
        repeat (go_quiet (first | (go_at_call 46; refine (A5.out _).mono ?_; rintro e w6 ⟨rfl, ⟨nd, rfl⟩⟩; (try first | exact ⟨rfl, _, World.drewN_drewN _ _ _⟩ | exact ⟨rfl, _, Eq.trans (World.drewN_drewN _ _ _) (congrArg (World.drewN _) (Nat.add_assoc _ _ _))⟩))); try go_wp2)
        go_roundg k1
        case measure => omega
        case rel => exact ⟨_, _, _, _, rfl, rfl, HX, ⟨by repeat (first | (with_reducible first | exact HI0.out | apply IsS67.alloc | apply IsS67.drewN | apply IsS67.drew | apply IsS67.set_1 | apply IsS67.set_2) | exact HI0.out)⟩, ⟨by repeat (first | (with_reducible first | exact HK.out | apply KeepBut.set_ | apply keep_drewN | apply keep_drew | apply keep_alloc) | exact HK.out)⟩, ⟨by repeat (first | (with_reducible first | exact HB.out | apply below_alloc | apply pw_below_drewN | apply below_drew1 | refine below_set ?_ (IsS67.ge HI0.out)) | exact HB.out)⟩⟩
      ·have H := HX.out
       rw [if_neg hd] at H
       have hdb : decide (0 ≤ digV (rd s0_0 at_)) = false := decide_eq_false hd
       clear hd HX
       rw [hdb]
       clear hdb
       have HX := Aside0.mk H
       clear H HG hge HS
       by_cases hz : c = 0
       ·have H := HX.out
        unfold body_reader_size.fin at H
        rw [if_pos ⟨rfl, hz⟩] at H
        replace H := Option.bind_eq_some_iff.mp H
        obtain ⟨⟨p1, p2⟩, AL0, H⟩ := H
        have AL := Aside0.mk AL0
        clear AL0 HX
        simp only [Option.some.injEq, Prod.mk.injEq] at H
        obtain ⟨rfl, rfl, rfl⟩ := H
        subst hz
        obtain ⟨Az, cz, HGz, hgz, HSz⟩ := HI0.out
        have hcz0 := cellS67_0 HGz
        have hcz1 := cellS67_1 HGz
        have hcz2 := cellS67_2 HGz
        have hfz1 := blk_frozen HGz 1
        have hfz2 := blk_frozen HGz 2
        clear HGz hgz HSz
        go_wp2_with (go_at_call 32; (with_reducible refine (body_reader_line.calls 6 g s0_0 at_ 21 p1 p2 w0 _ ?side1 ?side2 AL.out).mono ?_); (case side1 => repeat (first | (with_reducible first | exact HI0.out | apply IsS67.alloc | apply IsS67.drewN | apply IsS67.drew | apply IsS67.set_1 | apply IsS67.set_2) | exact HI0.out)); (case side2 => repeat (first | (with_reducible first | exact HB.out | apply below_alloc | apply pw_below_drewN | apply below_drew1 | refine below_set ?_ (IsS67.ge HI0.out)) | exact HB.out)); rintro e w9 ⟨rfl, hi, hb, hk⟩; have n0_ := Aside0.mk (KeepBut.trans (by repeat (first | (with_reducible first | exact HK.out | apply KeepBut.set_ | apply keep_drewN | apply keep_drew | apply keep_alloc) | exact HK.out)) hk (.inl rfl)); have n1_ := Aside0.mk hi; have n2_ := Aside0.mk hb; clear hi hb hk HK HI0 HB; have HI0 := n1_; have HB := n2_; have HK := n0_; clear n0_ n1_ n2_)
        go_ret
        exact ⟨rfl, HI0.out, HB.out, HK.out⟩
       ·have H := HX.out
        unfold body_reader_size.fin at H
        rw [if_neg (fun h_ => hz h_.2)] at H
        replace H := Option.bind_eq_some_iff.mp H
        obtain ⟨⟨p1, p2⟩, AL0, H⟩ := H
        have AL := Aside0.mk AL0
        clear AL0 HX
        simp only [Option.some.injEq, Prod.mk.injEq] at H
        obtain ⟨rfl, rfl, rfl⟩ := H
        have hcb : (c == 0) = false := beq_false_of_ne hz
        clear hz
        obtain ⟨Az, cz, HGz, hgz, HSz⟩ := HI0.out
        have hcz0 := cellS67_0 HGz
        have hcz1 := cellS67_1 HGz
        have hcz2 := cellS67_2 HGz
        have hfz1 := blk_frozen HGz 1
        have hfz2 := blk_frozen HGz 2
        clear HGz hgz HSz
        go_wp2_with (go_at_call 32; (with_reducible refine (body_reader_line.calls 6 g s0_0 at_ 0 p1 p2 w0 _ ?side1 ?side2 AL.out).mono ?_); (case side1 => repeat (first | (with_reducible first | exact HI0.out | apply IsS67.alloc | apply IsS67.drewN | apply IsS67.drew | apply IsS67.set_1 | apply IsS67.set_2) | exact HI0.out)); (case side2 => repeat (first | (with_reducible first | exact HB.out | apply below_alloc | apply pw_below_drewN | apply below_drew1 | refine below_set ?_ (IsS67.ge HI0.out)) | exact HB.out)); rintro e w9 ⟨rfl, hi, hb, hk⟩; have n0_ := Aside0.mk (KeepBut.trans (by repeat (first | (with_reducible first | exact HK.out | apply KeepBut.set_ | apply keep_drewN | apply keep_drew | apply keep_alloc) | exact HK.out)) hk (.inl rfl)); have n1_ := Aside0.mk hi; have n2_ := Aside0.mk hb; clear hi hb hk HK HI0 HB; have HI0 := n1_; have HB := n2_; have HK := n0_; clear n0_ n1_ n2_)
        go_ret
        exact ⟨rfl, HI0.out, HB.out, HK.out⟩
     ·rw [if_neg hb] at H; cases H
   ·rw [if_neg he] at H
    have HX := Aside0.mk H
    clear H
    have heb : (e_ == 0) = false := beq_false_of_ne he
    have HE := Aside0.mk he
    clear he
    obtain ⟨A0, c0, HG, hge, HS⟩ := HI0.out
    have hc0 := cellS67_0 HG
    have hc1 := cellS67_1 HG
    have hc2 := cellS67_2 HG
    clear HG hge HS
    go_wp2
    go_quiet (first | (go_at_call 45; refine (more_false _ g A0 s0_0.length c0 at_ e_ (by exact hc0) (by exact hc1) (by exact hc2) HE.out).mono ?_; rintro e w5 ⟨rfl, ⟨nd, rfl⟩⟩; (try first | exact ⟨rfl, _, World.drewN_drewN _ _ _⟩ | exact ⟨rfl, _, Eq.trans (World.drewN_drewN _ _ _) (congrArg (World.drewN _) (Nat.add_assoc _ _ _))⟩)))
    clear hc0 hc1 hc2
    have H := HX.out
    unfold body_reader_size.fin at H
    rw [if_neg (fun h_ => by have := h_.1; exact HE.out this)] at H
    replace H := Option.bind_eq_some_iff.mp H
    obtain ⟨⟨p1, p2⟩, AL0, H⟩ := H
    have AL := Aside0.mk AL0
    clear AL0 HX
    simp only [Option.some.injEq, Prod.mk.injEq] at H
    obtain ⟨rfl, rfl, rfl⟩ := H
    obtain ⟨Az, cz, HGz, hgz, HSz⟩ := HI0.out
    have hcz0 := cellS67_0 HGz
    have hcz1 := cellS67_1 HGz
    have hcz2 := cellS67_2 HGz
    have hfz1 := blk_frozen HGz 1
    have hfz2 := blk_frozen HGz 2
    clear HGz hgz HSz
    go_wp2_with (go_at_call 32; (with_reducible refine (body_reader_line.calls 6 g s0_0 at_ e_ p1 p2 w0 _ ?side1 ?side2 AL.out).mono ?_); (case side1 => repeat (first | (with_reducible first | exact HI0.out | apply IsS67.alloc | apply IsS67.drewN | apply IsS67.drew | apply IsS67.set_1 | apply IsS67.set_2) | exact HI0.out)); (case side2 => repeat (first | (with_reducible first | exact HB.out | apply below_alloc | apply pw_below_drewN | apply below_drew1 | refine below_set ?_ (IsS67.ge HI0.out)) | exact HB.out)); rintro e w9 ⟨rfl, hi, hb, hk⟩; have n0_ := Aside0.mk (KeepBut.trans (by repeat (first | (with_reducible first | exact HK.out | apply KeepBut.set_ | apply keep_drewN | apply keep_drew | apply keep_alloc) | exact HK.out)) hk (.inl rfl)); have n1_ := Aside0.mk hi; have n2_ := Aside0.mk hb; clear hi hb hk HK HI0 HB; have HI0 := n1_; have HB := n2_; have HK := n0_; clear n0_ n1_ n2_)
    go_ret
    exact ⟨rfl, HI0.out, HB.out, HK.out⟩
end Go.Proofs.YtodfjcmjoogcgaaDoor.P
