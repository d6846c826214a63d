import Derived.Test.YtodfjcmjoogcgaaDoorZBodyFramesPx0
import Derived.Test.YtodfjcmjoogcgaaDoorZBodyFramesPx3
import Derived.Test.YtodfjcmjoogcgaaDoorZBodyFramesPx4
namespace Go.Proofs.YtodfjcmjoogcgaaDoor.P
open Go.RowKit Go.Proofs.YtodfjcmjoogcgaaDoorW.PrintWords Go.Proofs.YtodfjcmjoogcgaaDoorW.PrintLast Go.Proofs.YtodfjcmjoogcgaaDoorW.PrintMore
attribute [local go_sem] max2_int min2_int max_two min_two max_three min_three max_four min_four   -- for this text's walks alone
set_option linter.unusedVariables false
set_option linter.unusedSimpArgs false
/-! ### body_Read: function 11 -/
def body_Read.fin (body : List Int) (at_ e : Int) (a2 : Bool) : Option (List Int × Int × Int) :=
 if (if e = 20 ∧ a2 = true then 21 else e) = 0 then (slices_Clone_byte_byte.f body).bind fun b => some (b, at_, 0) else some ([], 0, if e = 20 ∧ a2 = true then 21 else e)
theorem body_Read.fin_ok (body : List Int) (at_ : Int) (a2 : Bool) : body_Read.fin body at_ 0 a2 = (slices_Clone_byte_byte.f body).bind fun b => some (b, at_, 0) := by
 simp [body_Read.fin]
theorem clone_call (A : Option Addr) (m c : Nat) (body b : List Int) (W : World) (hC : Kd.C (Kd.int .u8) W A m body) (hm : body.length = m) (hc : m ≤ c) (h : slices_Clone_byte_byte.f body = some b) :
  Calls Tryd.prog 25 #[.slice A m c] W fun e w' => ∃ v0_ : Value, e = .returned (v0_) ∧ Kd.R (Kd.int .u8) 5 w' W.heap.size (fun _ => True) v0_ b ∧ Below W.heap.size W w' := by
 subst hm
 exact slices_Clone_byte_byte.calls A c body b W hC hc h
def body_Read.f (a0_0 a0_1 : Int) (l1 : List Int) (a2 : Bool) : Option (List Int × Int × Int) :=
 if a0_0 < 0 ∨ a0_0 > 3 ∨ a0_1 < 0 ∨ a0_1 > 2048 then some ([], 0, 10)
 else if a0_0 = 1 then (if (l1.length : Int) < a0_1 then body_Read.fin [] 0 20 a2 else body_Read.fin (l1.take a0_1.toNat) a0_1 0 a2)
 else if a0_0 = 2 then (body_reader_chunks.f l1 0 0).bind fun p => body_Read.fin p.1 p.2.1 p.2.2 a2
 else if a0_0 = 3 then (if (l1.length : Int) > 2048 then body_Read.fin [] 0 23 a2 else if a2 = true then body_Read.fin l1 (l1.length : Int) 0 a2 else body_Read.fin [] 0 20 a2)
 else body_Read.fin [] 0 0 a2
set_option maxHeartbeats 16000000 in
set_option maxRecDepth 100000 in
theorem body_Read.calls (a0_0 a0_1 : Int) (A1 : Option Addr) (c1 : Nat) (l1 : List Int) (a2 : Bool) (r1 : List Int) (r2 r3 : Int) (w : World) (hr1 : Kd.C (Kd.int .u8) w A1 l1.length l1) (hc1 : l1.length ≤ c1) (h : body_Read.f a0_0 a0_1 l1 a2 = some (r1, r2, r3)) :
  Calls Tryd.prog 11 #[.agg #[.int .i64 a0_0, .int .i64 a0_1], .slice A1 l1.length c1, .bool a2] w fun e w' => ∃ v0_ : Value, e = .returned (.tuple #[v0_, .int .i64 r2, .int .i64 r3]) ∧ Kd.R (Kd.int .u8) 5 w' w.heap.size (fun _ => True) v0_ r1 ∧ Below w.heap.size w w' := by
 have HR1 := Aside0.mk hr1
 have HC1 := Aside0.mk hc1
 clear hr1 hc1
 unfold body_Read.f at h
 go_enter Tryd.func11, Tryd.ntmps11
 by_cases hx : a0_0 < 0 ∨ a0_0 > 3 ∨ a0_1 < 0 ∨ a0_1 > 2048
 ·rw [if_pos hx] at h
  simp only [Option.some.injEq, Prod.mk.injEq] at h
  obtain ⟨rfl, rfl, rfl⟩ := h
  have hxb : (decide (a0_0 < 0) || decide (3 < a0_0) || decide (a0_1 < 0) || decide (2048 < a0_1)) = true := by simp; omega
  go_wp2
  all_goals (go_ret3; exact ⟨_, rfl, Kd.R_nil _ _ _ _ _, below_alloc (below_alloc (Below.refl _ _) _) _⟩)
 ·rw [if_neg hx] at h
  have hxb : (decide (a0_0 < 0) || decide (3 < a0_0) || decide (a0_1 < 0) || decide (2048 < a0_1)) = false := by simp; omega
  have hk0 : 0 ≤ a0_0 := by omega
  have hk1 : 0 ≤ a0_1 := by omega
  have hk2 : a0_1 ≤ 2048 := by omega
  have hk3 : a0_0 ≤ 3 := by omega
  clear hx
  go_upto_region 2 with (fail)
  have hbw := below_alloc (below_alloc (Below.refl w.heap.size w) (.cells #[.int .i64 a0_0, .int .i64 a0_1] 30)) (.cells #[.slice A1 l1.length c1, .int .i64 0, .int .i64 0] 67)
  have hI := IsS67.new w (w.alloc (.cells #[.int .i64 a0_0, .int .i64 a0_1] 30)) A1 c1 l1 0 0 (below_alloc (Below.refl w.heap.size w) _) HR1.out HC1.out
  have hF := blk_alloc (blk_new w (.cells #[.int .i64 a0_0, .int .i64 a0_1] 30)) (.cells #[.slice A1 l1.length c1, .int .i64 0, .int .i64 0] 67)
  rw [show (w.alloc (.cells #[.int .i64 a0_0, .int .i64 a0_1] 30)).heap.size = w.heap.size + 1 from by simp] at hI
  generalize hg : w.heap.size + 1 = g at *
  generalize hW : (w.alloc (.cells #[.int .i64 a0_0, .int .i64 a0_1] 30)).alloc (.cells #[.slice A1 l1.length c1, .int .i64 0, .int .i64 0] 67) = W at *
  have HB := Aside0.mk hbw
  obtain ⟨A0, c0, HG, hge, HS⟩ := hI
  have HGE := Aside0.mk hge.1
  have hf0 : W.cell? ⟨w.heap.size, 0, none⟩ = some (.int .i64 a0_0) := (blk_cell hF 0).trans rfl
  have hf1 : W.cell? ⟨w.heap.size, 1, none⟩ = some (.int .i64 a0_1) := (blk_cell hF 1).trans rfl
  have hc1 := cellS67_1 HG
  have hc2 := cellS67_2 HG
  have hfz1 := blk_frozen HG 1
  have hfz2 := blk_frozen HG 2
  have hne : g ≠ w.heap.size := by omega
  have hne2 : w.heap.size ≠ g := by omega
  have HIS : Aside0 (IsS67 w W g l1 0 0) := ⟨⟨A0, c0, HG, hge, HS⟩⟩
  clear hbw HG hge HS hF hg hW
  by_cases h1 : a0_0 = 1
  ·subst h1
   rw [if_pos rfl] at h
   by_cases hsh : (l1.length : Int) < a0_1
   ·rw [if_pos hsh] at h
    cases a2 with
    | true =>
     simp [body_Read.fin] at h
     obtain ⟨rfl, rfl, rfl⟩ := h
     go_wp2
     repeat (go_quiet (fail); try go_wp2)
     go_ret3
     exact ⟨_, rfl, Kd.R_nil _ _ _ _ _, by repeat (first | exact HB.out | (with_reducible first | apply below_alloc | apply pw_below_drewN | apply below_drew1 | refine below_set ?_ HGE.out))⟩
    | false =>
     simp [body_Read.fin] at h
     obtain ⟨rfl, rfl, rfl⟩ := h
     go_wp2
     repeat (go_quiet (fail); try go_wp2)
     go_ret3
     exact ⟨_, rfl, Kd.R_nil _ _ _ _ _, by repeat (first | exact HB.out | (with_reducible first | apply below_alloc | apply pw_below_drewN | apply below_drew1 | refine below_set ?_ HGE.out))⟩
   ·rw [if_neg hsh] at h
    obtain ⟨n1, hn1⟩ := Int.eq_ofNat_of_zero_le hk1
    subst hn1
    have hn1l : n1 ≤ l1.length := by omega
    rw [Int.toNat_natCast] at h
    have hCT : ∀ W, Below w.heap.size w W → Kd.C (Kd.int .u8) W A1 n1 (l1.take n1) := fun W hb => by
     have h2 := Kd.C_take (m := n1) (Kd.C_below HR1.out hb) hn1l
     rw [show (l1.take n1).length = n1 from by rw [List.length_take]; omega] at h2
     exact h2
    have hCT := Aside0.mk hCT
    clear hk0 hk1 hk3 hsh
    rw [body_Read.fin_ok] at h
    replace h := Option.bind_eq_some_iff.mp h
    obtain ⟨b0, AC0, h⟩ := h
    have AC := Aside0.mk AC0
    clear AC0
    simp only [Option.some.injEq, Prod.mk.injEq] at h
    obtain ⟨rfl, rfl, rfl⟩ := h
    go_wp2
    refine start_ (n := 11) (S := fun w' => w'.cell? ⟨w.heap.size, 1, none⟩ = some (.int .i64 (n1 : Int))) (ds := []) #[false, false, false, false, false, false, false, false, false, false, false] (by kernel_rfl) rfl rfl (by exact hf1) (fun hHeld => ?_)
    refine pure_ (i := 0) (N := some 50) (v := ?_) (a' := ?_) #[true, false, false, false, false, false, false, false, false, false, false] rfl rfl (by kernel_rfl) (fun _ _ _ h => h) (Or.inl ⟨by rfl, ?_⟩) ?_ ?_
    rotate_left
    ·intro w'
     go_simp
     with_reducible rfl
    rotate_left
    ·simp only [Act.put, List.setIfInBounds_toArray, List.set_cons_zero, List.set_cons_succ, i64_w, i32_w]
     rfl
    refine pure_ (i := 1) (N := some 51) (v := ?_) (a' := ?_) #[true, true, false, false, false, false, false, false, false, false, false] rfl rfl (by kernel_rfl) (fun _ _ _ h => h) (Or.inl ⟨by rfl, ?_⟩) ?_ ?_
    rotate_left
    ·intro w'
     go_simp
     with_reducible rfl
    rotate_left
    ·simp only [Act.put, List.setIfInBounds_toArray, List.set_cons_zero, List.set_cons_succ, i64_w, i32_w]
     rfl
    refine pure_ (i := 2) (N := some 52) (v := ?_) (a' := ?_) #[true, true, true, false, false, false, false, false, false, false, false] rfl rfl (by kernel_rfl) (fun _ _ _ h => h) (Or.inl ⟨by rfl, ?_⟩) ?_ ?_
    rotate_left
    ·intro w'
     go_simp
     with_reducible rfl
    rotate_left
    ·simp only [Act.put, List.setIfInBounds_toArray, List.set_cons_zero, List.set_cons_succ, i64_w, i32_w]
     rfl
    refine take_ (i := 3) (N := some 53) (v := ?_) (a' := ?_) #[true, true, true, true, false, false, false, false, false, false, false] rfl rfl (by kernel_rfl) (fun _ _ _ h => h) (Or.inl ⟨by rfl, ?_⟩) hHeld ?_ ?_
    rotate_left
    ·rintro w' s1
     go_simp
     with_reducible rfl
    rotate_left
    ·simp only [Act.put, List.setIfInBounds_toArray, List.set_cons_zero, List.set_cons_succ, i64_w, i32_w]
     rfl
    refine pure_ (i := 4) (N := some 54) (v := .slice A1 n1 c1) (a' := ?_) #[true, true, true, true, true, false, false, false, false, false, false] rfl rfl (by kernel_rfl) (fun _ _ _ h => h) (Or.inl ⟨by rfl, ?_⟩) ?_ ?_
    ·intro w'
     go_simp; intro hcn; exact absurd hcn (by have := HC1.out; omega)
    rotate_left
    ·simp only [Act.put, List.setIfInBounds_toArray, List.set_cons_zero, List.set_cons_succ, i64_w, i32_w]
     rfl
    refine pure_ (i := 5) (N := some 55) (v := ?_) (a' := ?_) #[true, true, true, true, true, true, false, false, false, false, false] rfl rfl (by kernel_rfl) (fun _ _ _ h => h) (Or.inl ⟨by rfl, ?_⟩) ?_ ?_
    rotate_left
    ·intro w'
     go_simp
     with_reducible rfl
    rotate_left
    ·simp only [Act.put, List.setIfInBounds_toArray, List.set_cons_zero, List.set_cons_succ, i64_w, i32_w]
     rfl
    refine take_ (i := 6) (N := some 56) (v := ?_) (a' := ?_) #[true, true, true, true, true, true, true, false, false, false, false] rfl rfl (by kernel_rfl) (fun _ _ _ h => h) (Or.inl ⟨by rfl, ?_⟩) hHeld ?_ ?_
    rotate_left
    ·rintro w' s1
     go_simp
     with_reducible rfl
    rotate_left
    ·simp only [Act.put, List.setIfInBounds_toArray, List.set_cons_zero, List.set_cons_succ, i64_w, i32_w]
     rfl
    refine pure_ (i := 7) (N := some 6) (v := ?_) (a' := ?_) #[true, true, true, true, true, true, true, true, false, false, false] rfl rfl (by kernel_rfl) (fun _ _ _ h => h) (Or.inl ⟨by rfl, ?_⟩) ?_ ?_
    rotate_left
    ·intro w'
     go_simp
     with_reducible rfl
    rotate_left
    ·simp only [Act.put, List.setIfInBounds_toArray, List.set_cons_zero, List.set_cons_succ, i64_w, i32_w]
     rfl
    refine pure_ (i := 8) (N := some 57) (v := ?_) (a' := ?_) #[true, true, true, true, true, true, true, true, true, false, false] rfl rfl (by kernel_rfl) (fun _ _ _ h => h) (Or.inl ⟨by rfl, ?_⟩) ?_ ?_
    rotate_left
    ·intro w'
     go_simp
     with_reducible rfl
    rotate_left
    ·simp only [Act.put, List.setIfInBounds_toArray, List.set_cons_zero, List.set_cons_succ, i64_w, i32_w]
     rfl
    refine pure_ (i := 9) (N := some 58) (v := ?_) (a' := ?_) #[true, true, true, true, true, true, true, true, true, true, false] rfl rfl (by kernel_rfl) (fun _ _ _ h => h) (Or.inl ⟨by rfl, ?_⟩) ?_ ?_
    rotate_left
    ·intro w'
     go_simp
     with_reducible rfl
    rotate_left
    ·simp only [Act.put, List.setIfInBounds_toArray, List.set_cons_zero, List.set_cons_succ, i64_w, i32_w]
     rfl
    refine one_ (i := 10) (N := none) #[true, true, true, true, true, true, true, true, true, true, true] rfl rfl (by kernel_rfl) (by decide) (fun K hK => ?_)
    have hcw : W.drew.cell? ⟨g, 1, none⟩ = some (.int .i64 0) := hc1
    have hfw : W.drew.frozen? ⟨g, 1, none⟩ = false := hfz1
    refine skip_ (w1 := W.drew.setCell ⟨g, 1, none⟩ (.int .i64 (n1 : Int))) (by rfl) rfl ?_ ?_
    ·go_simp
     try rfl
    clear hcw hfw
    refine hK.out _ _ ((cell_far (p := ⟨g, _, none⟩) hne2 _).trans hHeld) (fun _ => ?_)
    clear hK K
    refine done_ (by kernel_rfl) ?_
    obtain ⟨Aq, cq, HGq, hgeq, HSq⟩ := IsS67.set_1 (IsS67.drew HIS.out) (n1 : Int)
    have hd1 := cellS67_1 HGq
    have hd2 := cellS67_2 HGq
    clear HGq hgeq HSq hc1 hc2 hfz1 hfz2
    have HB2 := Aside0.mk (show Below w.heap.size w (W.drew.setCell ⟨g, 1, none⟩ (.int .i64 (n1 : Int))) from below_set (below_drew1 HB.out) HGE.out)
    generalize W.drew.setCell ⟨g, 1, none⟩ (.int .i64 (n1 : Int)) = W2 at *
    clear HB HIS
    have HB := HB2
    go_wp2
    refine start_ (n := 9) (S := fun w' => w'.cell? ⟨g, 1, none⟩ = some (.int .i64 (n1 : Int))) (ds := []) #[false, false, false, false, false, false, false, false, false] (by kernel_rfl) rfl rfl (by exact hd1) (fun hHeld => ?_)
    refine pure_ (i := 0) (N := some 118) (v := ?_) (a' := ?_) #[true, false, false, false, false, false, false, false, false] rfl rfl (by kernel_rfl) (fun _ _ _ h => h) (Or.inl ⟨by rfl, ?_⟩) ?_ ?_
    rotate_left
    ·intro w'
     go_simp
     with_reducible rfl
    rotate_left
    ·simp only [Act.put, List.setIfInBounds_toArray, List.set_cons_zero, List.set_cons_succ, i64_w, i32_w]
     rfl
    refine pure_ (i := 2) (N := some 120) (v := ?_) (a' := ?_) #[true, false, true, false, false, false, false, false, false] rfl rfl (by kernel_rfl) (fun _ _ _ h => h) (Or.inl ⟨by rfl, ?_⟩) ?_ ?_
    rotate_left
    ·intro w'
     go_simp
     with_reducible rfl
    rotate_left
    ·simp only [Act.put, List.setIfInBounds_toArray, List.set_cons_zero, List.set_cons_succ, i64_w, i32_w]
     rfl
    refine pure_ (i := 3) (N := some 121) (v := ?_) (a' := ?_) #[true, false, true, true, false, false, false, false, false] rfl rfl (by kernel_rfl) (fun _ _ _ h => h) (Or.inl ⟨by rfl, ?_⟩) ?_ ?_
    rotate_left
    ·intro w'
     go_simp
     with_reducible rfl
    rotate_left
    ·simp only [Act.put, List.setIfInBounds_toArray, List.set_cons_zero, List.set_cons_succ, i64_w, i32_w]
     rfl
    refine pure_ (i := 4) (N := some 122) (v := ?_) (a' := ?_) #[true, false, true, true, true, false, false, false, false] rfl rfl (by kernel_rfl) (fun _ _ _ h => h) (Or.inl ⟨by rfl, ?_⟩) ?_ ?_
    rotate_left
    ·intro w'
     go_simp
     with_reducible rfl
    rotate_left
    ·simp only [Act.put, List.setIfInBounds_toArray, List.set_cons_zero, List.set_cons_succ, i64_w, i32_w]
     rfl
    refine take_ (i := 5) (N := some 123) (v := ?_) (a' := ?_) #[true, false, true, true, true, true, false, false, false] rfl rfl (by kernel_rfl) (fun _ _ _ h => h) (Or.inl ⟨by rfl, ?_⟩) hHeld ?_ ?_
    rotate_left
    ·rintro w' s1
     go_simp
     with_reducible rfl
    rotate_left
    ·simp only [Act.put, List.setIfInBounds_toArray, List.set_cons_zero, List.set_cons_succ, i64_w, i32_w]
     rfl
    refine one_ (i := 1) (N := some 119) #[true, true, true, true, true, true, false, false, false] rfl rfl (by kernel_rfl) (by decide) (fun K hK => ?_)
    refine goes_ Tryd.func25 (by kernel_rfl) rfl #[.slice A1 n1 c1] (by rfl) rfl rfl (by (try simp only [List.map_toArray, List.map_cons, List.map_nil]); first | done | rfl) ?_
    refine (clone_call A1 n1 c1 (l1.take n1) b0 _ (by exact hCT.out _ (below_drew1 HB.out)) (by first | rfl | (simp; done) | (simp; omega)) (by have := HC1.out; omega) AC.out).mono ?_
    rintro e w5 ⟨v5, rfl, ho, hb⟩
    refine ⟨_, rfl, ?_⟩
    have HO5 := Aside0.mk (Kd.R_lower ho (below_size (by repeat (first | exact HB.out | (with_reducible first | apply below_alloc | apply pw_below_drewN | apply below_drew1 | refine below_set ?_ HGE.out)))))
    have HB5 := Aside0.mk (below_step (by repeat (first | exact HB.out | (with_reducible first | apply below_alloc | apply pw_below_drewN | apply below_drew1 | refine below_set ?_ HGE.out))) hb)
    refine hK.out _ _ (pw_cell_below hb hHeld) (fun _ => ?_)
    clear hK K ho hb
    refine norm_ (a' := ?_) ?_ ?_
    rotate_left
    ·show Act.put _ (some 119) _ = _
     simp only [Act.put, List.setIfInBounds_toArray, List.set_cons_zero, List.set_cons_succ, i64_w, i32_w]
     rfl
    refine pure_ (i := 6) (N := some 6) (v := ?_) (a' := ?_) #[true, true, true, true, true, true, true, false, false] rfl rfl (by kernel_rfl) (fun _ _ _ h => h) (Or.inl ⟨by rfl, ?_⟩) ?_ ?_
    rotate_left
    ·intro w'
     go_simp
     with_reducible rfl
    rotate_left
    ·simp only [Act.put, List.setIfInBounds_toArray, List.set_cons_zero, List.set_cons_succ, i64_w, i32_w]
     rfl
    refine pure_ (i := 7) (N := some 7) (v := ?_) (a' := ?_) #[true, true, true, true, true, true, true, true, false] rfl rfl (by kernel_rfl) (fun _ _ _ h => h) (Or.inl ⟨by rfl, ?_⟩) ?_ ?_
    rotate_left
    ·intro w'
     go_simp
     with_reducible rfl
    rotate_left
    ·simp only [Act.put, List.setIfInBounds_toArray, List.set_cons_zero, List.set_cons_succ, i64_w, i32_w]
     rfl
    refine pure_ (i := 8) (N := some 8) (v := ?_) (a' := ?_) #[true, true, true, true, true, true, true, true, true] rfl rfl (by kernel_rfl) (fun _ _ _ h => h) (Or.inl ⟨by rfl, ?_⟩) ?_ ?_
    rotate_left
    ·intro w'
     go_simp
     with_reducible rfl
    rotate_left
    ·simp only [Act.put, List.setIfInBounds_toArray, List.set_cons_zero, List.set_cons_succ, i64_w, i32_w]
     rfl
    refine done_ (by kernel_rfl) ?_
    try go_wp2
    go_ret3
    exact ⟨_, rfl, HO5.out, HB5.out⟩
  ·rw [if_neg h1] at h
   by_cases h2 : a0_0 = 2
   ·subst h2
    rw [if_pos rfl] at h
    replace h := Option.bind_eq_some_iff.mp h
    obtain ⟨⟨bb, at1, e1⟩, AL0, h⟩ := h
    have AL := Aside0.mk AL0
    clear AL0
    simp only at h
    by_cases h20 : e1 = 20
    ·subst h20
     cases a2 with
     | true =>
      simp [body_Read.fin] at h
      obtain ⟨rfl, rfl, rfl⟩ := h
      go_wp2_with (go_at_call 24; (with_reducible refine (body_reader_chunks.calls g l1 0 0 bb at1 20 w _ ?side1 ?side2 AL.out).mono ?_); (case side1 => exact HIS.out); (case side2 => exact HB.out); rintro e w9 ⟨v9, rfl, ho, hi, hb⟩; have n1_ := Aside0.mk hi; have n2_ := Aside0.mk hb; have HO9 := Aside0.mk ho; clear hc1 hc2 hfz1 hfz2 hf0 hf1 hi hb ho HIS HB; have HIS := n1_; have HB := n2_; clear n1_ n2_; obtain ⟨A0, c0, HG, hge, HS⟩ := HIS.out; have hc1 := cellS67_1 HG; have hc2 := cellS67_2 HG; have hfz1 := blk_frozen HG 1; have hfz2 := blk_frozen HG 2; clear HG hge HS; obtain ⟨Ao, co, eo⟩ := Kd.R_slice HO9.out; subst eo)
      repeat (go_quiet (fail); try go_wp2)
      go_ret3
      exact ⟨_, rfl, Kd.R_nil _ _ _ _ _, by repeat (first | exact HB.out | (with_reducible first | apply below_alloc | apply pw_below_drewN | apply below_drew1 | refine below_set ?_ HGE.out))⟩
     | false =>
      simp [body_Read.fin] at h
      obtain ⟨rfl, rfl, rfl⟩ := h
      go_wp2_with (go_at_call 24; (with_reducible refine (body_reader_chunks.calls g l1 0 0 bb at1 20 w _ ?side1 ?side2 AL.out).mono ?_); (case side1 => exact HIS.out); (case side2 => exact HB.out); rintro e w9 ⟨v9, rfl, ho, hi, hb⟩; have n1_ := Aside0.mk hi; have n2_ := Aside0.mk hb; have HO9 := Aside0.mk ho; clear hc1 hc2 hfz1 hfz2 hf0 hf1 hi hb ho HIS HB; have HIS := n1_; have HB := n2_; clear n1_ n2_; obtain ⟨A0, c0, HG, hge, HS⟩ := HIS.out; have hc1 := cellS67_1 HG; have hc2 := cellS67_2 HG; have hfz1 := blk_frozen HG 1; have hfz2 := blk_frozen HG 2; clear HG hge HS; obtain ⟨Ao, co, eo⟩ := Kd.R_slice HO9.out; subst eo)
      repeat (go_quiet (fail); try go_wp2)
      go_ret3
      exact ⟨_, rfl, Kd.R_nil _ _ _ _ _, by repeat (first | exact HB.out | (with_reducible first | apply below_alloc | apply pw_below_drewN | apply below_drew1 | refine below_set ?_ HGE.out))⟩
    ·by_cases h0 : e1 = 0
     ·subst h0
      rw [body_Read.fin_ok] at h
      replace h := Option.bind_eq_some_iff.mp h
      obtain ⟨b0, AC0, h⟩ := h
      have AC := Aside0.mk AC0
      clear AC0
      simp only [Option.some.injEq, Prod.mk.injEq] at h
      obtain ⟨rfl, rfl, rfl⟩ := h
      go_wp2_with (go_at_call 24; (with_reducible refine (body_reader_chunks.calls g l1 0 0 bb at1 0 w _ ?side1 ?side2 AL.out).mono ?_); (case side1 => exact HIS.out); (case side2 => exact HB.out); rintro e w9 ⟨v9, rfl, ho, hi, hb⟩; have n1_ := Aside0.mk hi; have n2_ := Aside0.mk hb; have HO9 := Aside0.mk ho; clear hc1 hc2 hfz1 hfz2 hf0 hf1 hi hb ho HIS HB; have HIS := n1_; have HB := n2_; clear n1_ n2_; obtain ⟨A0, c0, HG, hge, HS⟩ := HIS.out; have hc1 := cellS67_1 HG; have hc2 := cellS67_2 HG; have hfz1 := blk_frozen HG 1; have hfz2 := blk_frozen HG 2; clear HG hge HS; obtain ⟨Ao, co, eo⟩ := Kd.R_slice HO9.out; subst eo)
      refine start_ (n := 9) (S := fun w' => w'.cell? ⟨g, 1, none⟩ = some (.int .i64 at1)) (ds := []) #[false, false, false, false, false, false, false, false, false] (by kernel_rfl) rfl rfl (by exact hc1) (fun hHeld => ?_)
      refine pure_ (i := 0) (N := some 118) (v := ?_) (a' := ?_) #[true, false, false, false, false, false, false, false, false] rfl rfl (by kernel_rfl) (fun _ _ _ h => h) (Or.inl ⟨by rfl, ?_⟩) ?_ ?_
      rotate_left
      ·intro w'
       go_simp
       with_reducible rfl
      rotate_left
      ·simp only [Act.put, List.setIfInBounds_toArray, List.set_cons_zero, List.set_cons_succ, i64_w, i32_w]
       rfl
      refine pure_ (i := 2) (N := some 120) (v := ?_) (a' := ?_) #[true, false, true, false, false, false, false, false, false] rfl rfl (by kernel_rfl) (fun _ _ _ h => h) (Or.inl ⟨by rfl, ?_⟩) ?_ ?_
      rotate_left
      ·intro w'
       go_simp
       with_reducible rfl
      rotate_left
      ·simp only [Act.put, List.setIfInBounds_toArray, List.set_cons_zero, List.set_cons_succ, i64_w, i32_w]
       rfl
      refine pure_ (i := 3) (N := some 121) (v := ?_) (a' := ?_) #[true, false, true, true, false, false, false, false, false] rfl rfl (by kernel_rfl) (fun _ _ _ h => h) (Or.inl ⟨by rfl, ?_⟩) ?_ ?_
      rotate_left
      ·intro w'
       go_simp
       with_reducible rfl
      rotate_left
      ·simp only [Act.put, List.setIfInBounds_toArray, List.set_cons_zero, List.set_cons_succ, i64_w, i32_w]
       rfl
      refine pure_ (i := 4) (N := some 122) (v := ?_) (a' := ?_) #[true, false, true, true, true, false, false, false, false] rfl rfl (by kernel_rfl) (fun _ _ _ h => h) (Or.inl ⟨by rfl, ?_⟩) ?_ ?_
      rotate_left
      ·intro w'
       go_simp
       with_reducible rfl
      rotate_left
      ·simp only [Act.put, List.setIfInBounds_toArray, List.set_cons_zero, List.set_cons_succ, i64_w, i32_w]
       rfl
      refine take_ (i := 5) (N := some 123) (v := ?_) (a' := ?_) #[true, false, true, true, true, true, false, false, false] rfl rfl (by kernel_rfl) (fun _ _ _ h => h) (Or.inl ⟨by rfl, ?_⟩) hHeld ?_ ?_
      rotate_left
      ·rintro w' s1
       go_simp
       with_reducible rfl
      rotate_left
      ·simp only [Act.put, List.setIfInBounds_toArray, List.set_cons_zero, List.set_cons_succ, i64_w, i32_w]
       rfl
      refine one_ (i := 1) (N := some 119) #[true, true, true, true, true, true, false, false, false] rfl rfl (by kernel_rfl) (by decide) (fun K hK => ?_)
      refine goes_ Tryd.func25 (by kernel_rfl) rfl #[.slice Ao bb.length co] (by rfl) rfl rfl (by (try simp only [List.map_toArray, List.map_cons, List.map_nil]); first | done | rfl) ?_
      refine (clone_call Ao bb.length co bb b0 _ (by exact (Kd.R_reads' (Kd.R_drew HO9.out)).2.2) (by first | rfl | (simp; done) | (simp; omega)) (by exact (Kd.R_reads' HO9.out).2.1) AC.out).mono ?_
      rintro e w5 ⟨v5, rfl, ho, hb⟩
      refine ⟨_, rfl, ?_⟩
      have HO5 := Aside0.mk (Kd.R_lower ho (below_size (by repeat (first | exact HB.out | (with_reducible first | apply below_alloc | apply pw_below_drewN | apply below_drew1 | refine below_set ?_ HGE.out)))))
      have HB5 := Aside0.mk (below_step (by repeat (first | exact HB.out | (with_reducible first | apply below_alloc | apply pw_below_drewN | apply below_drew1 | refine below_set ?_ HGE.out))) hb)
      refine hK.out _ _ (pw_cell_below hb hHeld) (fun _ => ?_)
      clear hK K ho hb
      refine norm_ (a' := ?_) ?_ ?_
      rotate_left
      ·show Act.put _ (some 119) _ = _
       simp only [Act.put, List.setIfInBounds_toArray, List.set_cons_zero, List.set_cons_succ, i64_w, i32_w]
       rfl
      refine pure_ (i := 6) (N := some 6) (v := ?_) (a' := ?_) #[true, true, true, true, true, true, true, false, false] rfl rfl (by kernel_rfl) (fun _ _ _ h => h) (Or.inl ⟨by rfl, ?_⟩) ?_ ?_
      rotate_left
      ·intro w'
       go_simp
       with_reducible rfl
      rotate_left
      ·simp only [Act.put, List.setIfInBounds_toArray, List.set_cons_zero, List.set_cons_succ, i64_w, i32_w]
       rfl
      refine pure_ (i := 7) (N := some 7) (v := ?_) (a' := ?_) #[true, true, true, true, true, true, true, true, false] rfl rfl (by kernel_rfl) (fun _ _ _ h => h) (Or.inl ⟨by rfl, ?_⟩) ?_ ?_
      rotate_left
      ·intro w'
       go_simp
       with_reducible rfl
      rotate_left
      ·simp only [Act.put, List.setIfInBounds_toArray, List.set_cons_zero, List.set_cons_succ, i64_w, i32_w]
       rfl
      refine pure_ (i := 8) (N := some 8) (v := ?_) (a' := ?_) #[true, true, true, true, true, true, true, true, true] rfl rfl (by kernel_rfl) (fun _ _ _ h => h) (Or.inl ⟨by rfl, ?_⟩) ?_ ?_
      rotate_left
      ·intro w'
       go_simp
       with_reducible rfl
      rotate_left
      ·simp only [Act.put, List.setIfInBounds_toArray, List.set_cons_zero, List.set_cons_succ, i64_w, i32_w]
       rfl
      refine done_ (by kernel_rfl) ?_
      try go_wp2
      go_ret3
      exact ⟨_, rfl, HO5.out, HB5.out⟩
     ·have hb20 : (e1 == 20) = false := beq_false_of_ne h20
      have hb0 : (e1 == 0) = false := beq_false_of_ne h0
      have hb0n : (e1 != 0) = true := by simpa using h0
      have hfe : body_Read.fin bb at1 e1 a2 = some ([], 0, e1) := by simp [body_Read.fin, h20, h0]
      rw [hfe] at h
      clear h20 h0 hfe
      simp only [Option.some.injEq, Prod.mk.injEq] at h
      obtain ⟨rfl, rfl, rfl⟩ := h
      go_wp2_with (go_at_call 24; (with_reducible refine (body_reader_chunks.calls g l1 0 0 bb at1 e1 w _ ?side1 ?side2 AL.out).mono ?_); (case side1 => exact HIS.out); (case side2 => exact HB.out); rintro e w9 ⟨v9, rfl, ho, hi, hb⟩; have n1_ := Aside0.mk hi; have n2_ := Aside0.mk hb; have HO9 := Aside0.mk ho; clear hc1 hc2 hfz1 hfz2 hf0 hf1 hi hb ho HIS HB; have HIS := n1_; have HB := n2_; clear n1_ n2_; obtain ⟨A0, c0, HG, hge, HS⟩ := HIS.out; have hc1 := cellS67_1 HG; have hc2 := cellS67_2 HG; have hfz1 := blk_frozen HG 1; have hfz2 := blk_frozen HG 2; clear HG hge HS; obtain ⟨Ao, co, eo⟩ := Kd.R_slice HO9.out; subst eo)
      repeat (go_quiet (fail); try go_wp2)
      go_ret3
      exact ⟨_, rfl, Kd.R_nil _ _ _ _ _, by repeat (first | exact HB.out | (with_reducible first | apply below_alloc | apply pw_below_drewN | apply below_drew1 | refine below_set ?_ HGE.out))⟩
   ·rw [if_neg h2] at h
    by_cases h3 : a0_0 = 3
    ·subst h3
     rw [if_pos rfl] at h
     by_cases hbig : (l1.length : Int) > 2048
     ·rw [if_pos hbig] at h
      simp [body_Read.fin] at h
      obtain ⟨rfl, rfl, rfl⟩ := h
      go_wp2
      repeat (go_quiet (fail); try go_wp2)
      go_ret3
      exact ⟨_, rfl, Kd.R_nil _ _ _ _ _, by repeat (first | exact HB.out | (with_reducible first | apply below_alloc | apply pw_below_drewN | apply below_drew1 | refine below_set ?_ HGE.out))⟩
     ·rw [if_neg hbig] at h
      cases a2 with
      | true =>
       rw [if_pos rfl] at h
       rw [body_Read.fin_ok] at h
       replace h := Option.bind_eq_some_iff.mp h
       obtain ⟨b0, AC0, h⟩ := h
       have AC := Aside0.mk AC0
       clear AC0
       simp only [Option.some.injEq, Prod.mk.injEq] at h
       obtain ⟨rfl, rfl, rfl⟩ := h
       go_wp2
       refine start_ (n := 9) (S := fun w' => w'.cell? ⟨g, 1, none⟩ = some (.int .i64 (l1.length : Int))) (ds := []) #[false, false, false, false, false, false, false, false, false] (by kernel_rfl) rfl rfl (by exact (by obtain ⟨_, _, HG1, _, _⟩ := IsS67.set_1 HIS.out (l1.length : Int); exact cellS67_1 HG1)) (fun hHeld => ?_)
       refine pure_ (i := 0) (N := some 118) (v := ?_) (a' := ?_) #[true, false, false, false, false, false, false, false, false] rfl rfl (by kernel_rfl) (fun _ _ _ h => h) (Or.inl ⟨by rfl, ?_⟩) ?_ ?_
       rotate_left
       ·intro w'
        go_simp
        with_reducible rfl
       rotate_left
       ·simp only [Act.put, List.setIfInBounds_toArray, List.set_cons_zero, List.set_cons_succ, i64_w, i32_w]
        rfl
       refine pure_ (i := 2) (N := some 120) (v := ?_) (a' := ?_) #[true, false, true, false, false, false, false, false, false] rfl rfl (by kernel_rfl) (fun _ _ _ h => h) (Or.inl ⟨by rfl, ?_⟩) ?_ ?_
       rotate_left
       ·intro w'
        go_simp
        with_reducible rfl
       rotate_left
       ·simp only [Act.put, List.setIfInBounds_toArray, List.set_cons_zero, List.set_cons_succ, i64_w, i32_w]
        rfl
       refine pure_ (i := 3) (N := some 121) (v := ?_) (a' := ?_) #[true, false, true, true, false, false, false, false, false] rfl rfl (by kernel_rfl) (fun _ _ _ h => h) (Or.inl ⟨by rfl, ?_⟩) ?_ ?_
       rotate_left
       ·intro w'
        go_simp
        with_reducible rfl
       rotate_left
       ·simp only [Act.put, List.setIfInBounds_toArray, List.set_cons_zero, List.set_cons_succ, i64_w, i32_w]
        rfl
       refine pure_ (i := 4) (N := some 122) (v := ?_) (a' := ?_) #[true, false, true, true, true, false, false, false, false] rfl rfl (by kernel_rfl) (fun _ _ _ h => h) (Or.inl ⟨by rfl, ?_⟩) ?_ ?_
       rotate_left
       ·intro w'
        go_simp
        with_reducible rfl
       rotate_left
       ·simp only [Act.put, List.setIfInBounds_toArray, List.set_cons_zero, List.set_cons_succ, i64_w, i32_w]
        rfl
       refine take_ (i := 5) (N := some 123) (v := ?_) (a' := ?_) #[true, false, true, true, true, true, false, false, false] rfl rfl (by kernel_rfl) (fun _ _ _ h => h) (Or.inl ⟨by rfl, ?_⟩) hHeld ?_ ?_
       rotate_left
       ·rintro w' s1
        go_simp
        with_reducible rfl
       rotate_left
       ·simp only [Act.put, List.setIfInBounds_toArray, List.set_cons_zero, List.set_cons_succ, i64_w, i32_w]
        rfl
       refine one_ (i := 1) (N := some 119) #[true, true, true, true, true, true, false, false, false] rfl rfl (by kernel_rfl) (by decide) (fun K hK => ?_)
       refine goes_ Tryd.func25 (by kernel_rfl) rfl #[.slice A1 l1.length c1] (by rfl) rfl rfl (by (try simp only [List.map_toArray, List.map_cons, List.map_nil]); first | done | rfl) ?_
       refine (clone_call A1 l1.length c1 l1 b0 _ (by exact Kd.C_below HR1.out (by repeat (first | exact HB.out | (with_reducible first | apply below_alloc | apply pw_below_drewN | apply below_drew1 | refine below_set ?_ HGE.out)))) (by first | rfl | (simp; done) | (simp; omega)) (by exact HC1.out) AC.out).mono ?_
       rintro e w5 ⟨v5, rfl, ho, hb⟩
       refine ⟨_, rfl, ?_⟩
       have HO5 := Aside0.mk (Kd.R_lower ho (below_size (by repeat (first | exact HB.out | (with_reducible first | apply below_alloc | apply pw_below_drewN | apply below_drew1 | refine below_set ?_ HGE.out)))))
       have HB5 := Aside0.mk (below_step (by repeat (first | exact HB.out | (with_reducible first | apply below_alloc | apply pw_below_drewN | apply below_drew1 | refine below_set ?_ HGE.out))) hb)
       refine hK.out _ _ (pw_cell_below hb hHeld) (fun _ => ?_)
       clear hK K ho hb
       refine norm_ (a' := ?_) ?_ ?_
       rotate_left
       ·show Act.put _ (some 119) _ = _
        simp only [Act.put, List.setIfInBounds_toArray, List.set_cons_zero, List.set_cons_succ, i64_w, i32_w]
        rfl
       refine pure_ (i := 6) (N := some 6) (v := ?_) (a' := ?_) #[true, true, true, true, true, true, true, false, false] rfl rfl (by kernel_rfl) (fun _ _ _ h => h) (Or.inl ⟨by rfl, ?_⟩) ?_ ?_
       rotate_left
       ·intro w'
        go_simp
        with_reducible rfl
       rotate_left
       ·simp only [Act.put, List.setIfInBounds_toArray, List.set_cons_zero, List.set_cons_succ, i64_w, i32_w]
        rfl
       refine pure_ (i := 7) (N := some 7) (v := ?_) (a' := ?_) #[true, true, true, true, true, true, true, true, false] rfl rfl (by kernel_rfl) (fun _ _ _ h => h) (Or.inl ⟨by rfl, ?_⟩) ?_ ?_
       rotate_left
       ·intro w'
        go_simp
        with_reducible rfl
       rotate_left
       ·simp only [Act.put, List.setIfInBounds_toArray, List.set_cons_zero, List.set_cons_succ, i64_w, i32_w]
        rfl
       refine pure_ (i := 8) (N := some 8) (v := ?_) (a' := ?_) #[true, true, true, true, true, true, true, true, true] rfl rfl (by kernel_rfl) (fun _ _ _ h => h) (Or.inl ⟨by rfl, ?_⟩) ?_ ?_
       rotate_left
       ·intro w'
        go_simp
        with_reducible rfl
       rotate_left
       ·simp only [Act.put, List.setIfInBounds_toArray, List.set_cons_zero, List.set_cons_succ, i64_w, i32_w]
        rfl
       refine done_ (by kernel_rfl) ?_
       try go_wp2
       go_ret3
       exact ⟨_, rfl, HO5.out, HB5.out⟩
      | false =>
       rw [if_neg (by decide)] at h
       simp [body_Read.fin] at h
       obtain ⟨rfl, rfl, rfl⟩ := h
       go_wp2
       repeat (go_quiet (fail); try go_wp2)
       go_ret3
       exact ⟨_, rfl, Kd.R_nil _ _ _ _ _, by repeat (first | exact HB.out | (with_reducible first | apply below_alloc | apply pw_below_drewN | apply below_drew1 | refine below_set ?_ HGE.out))⟩
    ·rw [if_neg h3] at h
     obtain rfl : a0_0 = 0 := by omega
     rw [body_Read.fin_ok] at h
     replace h := Option.bind_eq_some_iff.mp h
     obtain ⟨b0, AC0, h⟩ := h
     have AC := Aside0.mk AC0
     clear AC0
     simp only [Option.some.injEq, Prod.mk.injEq] at h
     obtain ⟨rfl, rfl, rfl⟩ := h
     go_wp2
     refine start_ (n := 9) (S := fun w' => w'.cell? ⟨g, 1, none⟩ = some (.int .i64 0)) (ds := []) #[false, false, false, false, false, false, false, false, false] (by kernel_rfl) rfl rfl (by exact hc1) (fun hHeld => ?_)
     refine pure_ (i := 0) (N := some 118) (v := ?_) (a' := ?_) #[true, false, false, false, false, false, false, false, false] rfl rfl (by kernel_rfl) (fun _ _ _ h => h) (Or.inl ⟨by rfl, ?_⟩) ?_ ?_
     rotate_left
     ·intro w'
      go_simp
      with_reducible rfl
     rotate_left
     ·simp only [Act.put, List.setIfInBounds_toArray, List.set_cons_zero, List.set_cons_succ, i64_w, i32_w]
      rfl
     refine pure_ (i := 2) (N := some 120) (v := ?_) (a' := ?_) #[true, false, true, false, false, false, false, false, false] rfl rfl (by kernel_rfl) (fun _ _ _ h => h) (Or.inl ⟨by rfl, ?_⟩) ?_ ?_
     rotate_left
     ·intro w'
      go_simp
      with_reducible rfl
     rotate_left
     ·simp only [Act.put, List.setIfInBounds_toArray, List.set_cons_zero, List.set_cons_succ, i64_w, i32_w]
      rfl
     refine pure_ (i := 3) (N := some 121) (v := ?_) (a' := ?_) #[true, false, true, true, false, false, false, false, false] rfl rfl (by kernel_rfl) (fun _ _ _ h => h) (Or.inl ⟨by rfl, ?_⟩) ?_ ?_
     rotate_left
     ·intro w'
      go_simp
      with_reducible rfl
     rotate_left
     ·simp only [Act.put, List.setIfInBounds_toArray, List.set_cons_zero, List.set_cons_succ, i64_w, i32_w]
      rfl
     refine pure_ (i := 4) (N := some 122) (v := ?_) (a' := ?_) #[true, false, true, true, true, false, false, false, false] rfl rfl (by kernel_rfl) (fun _ _ _ h => h) (Or.inl ⟨by rfl, ?_⟩) ?_ ?_
     rotate_left
     ·intro w'
      go_simp
      with_reducible rfl
     rotate_left
     ·simp only [Act.put, List.setIfInBounds_toArray, List.set_cons_zero, List.set_cons_succ, i64_w, i32_w]
      rfl
     refine take_ (i := 5) (N := some 123) (v := ?_) (a' := ?_) #[true, false, true, true, true, true, false, false, false] rfl rfl (by kernel_rfl) (fun _ _ _ h => h) (Or.inl ⟨by rfl, ?_⟩) hHeld ?_ ?_
     rotate_left
     ·rintro w' s1
      go_simp
      with_reducible rfl
     rotate_left
     ·simp only [Act.put, List.setIfInBounds_toArray, List.set_cons_zero, List.set_cons_succ, i64_w, i32_w]
      rfl
     refine one_ (i := 1) (N := some 119) #[true, true, true, true, true, true, false, false, false] rfl rfl (by kernel_rfl) (by decide) (fun K hK => ?_)
     refine goes_ Tryd.func25 (by kernel_rfl) rfl #[.slice none 0 0] (by rfl) rfl rfl (by (try simp only [List.map_toArray, List.map_cons, List.map_nil]); first | done | rfl) ?_
     refine (clone_call none 0 0 ([] : List Int) b0 _ (by exact ⟨rfl, by decide, fun h => absurd h (by decide)⟩) (by first | rfl | (simp; done) | (simp; omega)) (by exact Nat.le_refl _) AC.out).mono ?_
     rintro e w5 ⟨v5, rfl, ho, hb⟩
     refine ⟨_, rfl, ?_⟩
     have HO5 := Aside0.mk (Kd.R_lower ho (below_size (by repeat (first | exact HB.out | (with_reducible first | apply below_alloc | apply pw_below_drewN | apply below_drew1 | refine below_set ?_ HGE.out)))))
     have HB5 := Aside0.mk (below_step (by repeat (first | exact HB.out | (with_reducible first | apply below_alloc | apply pw_below_drewN | apply below_drew1 | refine below_set ?_ HGE.out))) hb)
     refine hK.out _ _ (pw_cell_below hb hHeld) (fun _ => ?_)
     clear hK K ho hb
     refine norm_ (a' := ?_) ?_ ?_
     rotate_left
     ·show Act.put _ (some 119) _ = _
      simp only [Act.put, List.setIfInBounds_toArray, List.set_cons_zero, List.set_cons_succ, i64_w, i32_w]
      rfl
     refine pure_ (i := 6) (N := some 6) (v := ?_) (a' := ?_) #[true, true, true, true, true, true, true, false, false] rfl rfl (by kernel_rfl) (fun _ _ _ h => h) (Or.inl ⟨by rfl, ?_⟩) ?_ ?_
     rotate_left
     ·intro w'
      go_simp
      with_reducible rfl
     rotate_left
     ·simp only [Act.put, List.setIfInBounds_toArray, List.set_cons_zero, List.set_cons_succ, i64_w, i32_w]
      rfl
     refine pure_ (i := 7) (N := some 7) (v := ?_) (a' := ?_) #[true, true, true, true, true, true, true, true, false] rfl rfl (by kernel_rfl) (fun _ _ _ h => h) (Or.inl ⟨by rfl, ?_⟩) ?_ ?_
     rotate_left
     ·intro w'
      go_simp
      with_reducible rfl
     rotate_left
     ·simp only [Act.put, List.setIfInBounds_toArray, List.set_cons_zero, List.set_cons_succ, i64_w, i32_w]
      rfl
     refine pure_ (i := 8) (N := some 8) (v := ?_) (a' := ?_) #[true, true, true, true, true, true, true, true, true] rfl rfl (by kernel_rfl) (fun _ _ _ h => h) (Or.inl ⟨by rfl, ?_⟩) ?_ ?_
     rotate_left
     ·intro w'
      go_simp
      with_reducible rfl
     rotate_left
     ·simp only [Act.put, List.setIfInBounds_toArray, List.set_cons_zero, List.set_cons_succ, i64_w, i32_w]
      rfl
     refine done_ (by kernel_rfl) ?_
     try go_wp2
     go_ret3
     exact ⟨_, rfl, HO5.out, HB5.out⟩
/-! ### strconv_isPowerOfTwo: function 75 -/
def strconv_isPowerOfTwo.f (a0 : Int) : Option (Bool) := some ((Go.bits .and .i64 a0 (wrap64 (a0 - 1))) == 0)
set_option maxHeartbeats 8000000 in
set_option maxRecDepth 100000 in
theorem strconv_isPowerOfTwo.calls (a0 : Int) (r : Bool) (w : World) (h : strconv_isPowerOfTwo.f a0 = some r) :
  Calls Tryd.prog 75 #[.int .i64 a0] w fun e w' => e = .returned (.bool r) ∧ Drawn0 w w' := by
 have H : (some ((Go.bits .and .i64 a0 (wrap64 (a0 - 1))) == 0)) = some r := h
 clear h
 obtain rfl := Option.some.inj H
 go_enter Tryd.func75, Tryd.ntmps75
 go_wp2
 go_ret
 exact ⟨by first | rfl | (simp; done) | (simp [*]; done) | (simp [ne_nil_B, eq_nil_B]; done), by repeat (first | exact Drawn0.refl _ | apply Drawn0.step)⟩
/-! ### strconv_AppendInt: function 30 -/
def hexd (n : Nat) : UInt8 := if n < 10 then UInt8.ofNat (48 + n) else UInt8.ofNat (87 + n)
def hexN (n : Nat) : List UInt8 := if h : n < 16 then [hexd n] else hexN (n / 16) ++ [hexd (n % 16)]
termination_by n
decreasing_by omega
def il8 (l : List UInt8) : List Int := l.map fun b => (b.toNat : Int)
theorem hexN_lo (n : Nat) (h : n < 16) : hexN n = [hexd n] := by rw [hexN, dif_pos h]
theorem hexN_hi (n : Nat) (h : ¬ n < 16) : hexN n = hexN (n / 16) ++ [hexd (n % 16)] := by rw [hexN, dif_neg h]
def digS : ByteArray := ⟨#[48, 49, 50, 51, 52, 53, 54, 55, 56, 57, 97, 98, 99, 100, 101, 102, 103, 104, 105, 106, 107, 108, 109, 110, 111, 112, 113, 114, 115, 116, 117, 118, 119, 120, 121, 122]⟩
theorem digS_at (n : Nat) (h : n < 16) : digS.data.toList[n]? = some (hexd n) := by
 have : ∀ n, n < 16 → digS.data.toList[n]? = some (hexd n) := by decide +kernel
 exact this n h
theorem and15 (c : Nat) (h : c < 281474976710656) : Go.bits .and .u64 (c : Int) 15 = ((c % 16 : Nat) : Int) := by
 have := bits_mask .u64 48 (by decide) (fun n h0 h1 => by simp [IntKind.wrap, IntKind.bits, IntKind.signed]; omega) 4 (by decide) (c : Int) (by omega) (by omega)
 simpa using this
theorem drop_set (cs : Array Value) (j : Nat) (v : Value) (l : List Value) (hj : j < cs.size) (h : cs.toList.drop (j + 1) = l) : (cs.setIfInBounds j v).toList.drop j = v :: l := by
 have hj' : j < cs.toList.length := by simpa using hj
 rw [Array.toList_setIfInBounds, List.drop_eq_getElem_cons (by simpa using hj), List.getElem_set_self, List.drop_set_of_lt (by omega), h]
theorem C_blk {w : World} {b : Nat} {cs : Array Value} {t : TypeId} (j : Nat) (xs : List Int) (hb : w.heap[b]? = some (.cells cs t (0, 0))) (hd : cs.toList.drop j = xs.map (Value.int .u8)) (hn : xs.length ≤ 9223372036854775807) : Kd.C (Kd.int .u8) w (some ⟨b, j, none⟩) xs.length xs := by
 refine ⟨rfl, hn, fun _ => ⟨_, rfl, fun q p hp => ⟨[.int .u8 p], rfl, rfl, fun i u hu => ?_⟩⟩⟩
 have hi : i = 0 := by rcases i with _ | i; rfl; simp at hu
 subst hi
 have hu : Value.int .u8 p = u := by simpa using hu
 subst hu
 have h1 : (cs.toList.drop j)[q]? = some (.int .u8 p) := by rw [hd, List.getElem?_map, hp]; rfl
 rw [List.getElem?_drop, Array.getElem?_toList] at h1
 have h2 : (⟨b, j, none⟩ : Addr).add (q * (Kd.int .u8).sz + 0) = ⟨b, j + q, none⟩ := by simp [Addr.add, Kd.int, Kd.scalar]
 rw [h2, blk_cell hb]
 exact h1
set_option maxHeartbeats 4000000 in
set_option maxRecDepth 100000 in
theorem formatBits_16 (P0_ : Nat → Prop) (u9 : Value) (l0 : List Int) (u : Nat) (hu : u < 281474976710656) (hl0 : l0.length < 140737488355000) (w0 w : World) (hBw : Below w0.heap.size w0 w) (ho0 : Kd.R (Kd.int .u8) 5 w w0.heap.size P0_ u9 l0)
 (h76 : ∀ w', Below w.heap.size w w' → Calls Tryd.prog 76 #[.int .u64 16] w' fun e w'' => e = .returned (.int .i64 4) ∧ w'' = w') :
  Calls Tryd.prog 67 #[u9, .int .u64 u, .int .i64 16, .bool false, .bool true] w fun e w' => ∃ v0_ : Value, e = .returned (.tuple #[v0_, .string ⟨#[]⟩]) ∧ Kd.R (Kd.int .u8) 5 w' w0.heap.size (fun k_ => P0_ k_ ∨ w.heap.size ≤ k_) v0_ (l0 ++ il8 (hexN u)) ∧ Below w0.heap.size w0 w' ∧ Kept w w' (fun k_ => P0_ k_) := by
 have H76 := Lib.hid h76
 have HBw := Lib.hid hBw
 have HO := Lib.hid ho0
 have HL := Lib.hid hl0
 clear h76 hBw ho0 hl0
 have h75 : strconv_isPowerOfTwo.f 16 = some true := by decide +kernel
 have H75 := Lib.hid h75
 clear h75
 go_enter Tryd.func67, Tryd.ntmps67
 go_wp2_with (first | (go_at_call 75; refine (strconv_isPowerOfTwo.calls 16 true _ H75.out).mono ?_; rintro e w' ⟨rfl, ⟨nd, rfl⟩⟩) | (go_at_call 76; refine (H76.out _ (pw_below_drewN (below_alloc (Below.refl _ _) _) _)).mono ?_; rintro e w' ⟨rfl, rfl⟩))
 have HB0 := Aside0.mk (blk_new w (.cells Tryd.zeroCells121 121))
 have HW0 := Aside0.mk (below_alloc (Below.refl w.heap.size w) (.cells Tryd.zeroCells121 121))
 have hz : Tryd.zeroCells121.size = 65 := by kernel_rfl
 have HZ := Lib.hid hz
 clear hz
 clear H75 H76
 generalize Tryd.zeroCells121 = z0 at *
 have hu0 : u < 16 ^ 12 := hu
 have HU := Lib.hid hu
 clear hu
 go_loopw [1, 13] (fun v1 v13 wr => ∃ (c i n : Nat) (ds : List UInt8) (cs : Array Value), v1 = .int .u64 c ∧ v13 = .int .i64 i ∧ Aside0 (i + n = 65 ∧ n ≤ 12 ∧ c ≤ u) ∧ Aside0 (c < 16 ^ (12 - n)) ∧ Aside0 (hexN u = hexN c ++ ds) ∧ Aside0 (cs.size = 65 ∧ cs.toList.drop i = (il8 ds).map (Value.int .u8)) ∧ Aside0 (wr.heap[w.heap.size]? = some (.cells cs 121 (0, 0))) ∧ Aside0 (Below w.heap.size w wr)) (fun v _ _ => (intOf v).toNat)
 case atStart =>
  exact ⟨u, 65, 0, [], z0, rfl, rfl, ⟨rfl, Nat.zero_le _, Nat.le_refl _⟩, ⟨hu0⟩, ⟨by simp⟩, ⟨HZ.out, by rw [List.drop_of_length_le (by have := HZ.out; simp; omega)]; rfl⟩, ⟨HB0.out⟩, ⟨pw_below_drewN HW0.out nd⟩⟩
 case round =>
  obtain ⟨c, i, n, ds, cs, rfl, rfl, HI, HC, HX, HS, HB, HQ⟩ := hrel
  clear HB0 HW0 HZ hu0
  have hi := HI.out.1
  have hn := HI.out.2.1
  by_cases hc : 16 ≤ c
  ·have hn2 : n ≤ 10 := by
    have h1 := HC.out
    rcases Nat.lt_or_ge 10 n with h0 | h0
    ·have h2 : 12 - n ≤ 1 := by omega
     have h3 : 16 ^ (12 - n) ≤ 16 ^ 1 := Nat.pow_le_pow_right (by decide) h2
     omega
    ·exact h0
   obtain ⟨j, hj⟩ : ∃ j, i = j + 1 := ⟨i - 1, by omega⟩
   subst hj
   have hj1 : 1 ≤ j := by omega
   have hj2 : j ≤ 64 := by omega
   have hand := and15 c (by have := HU.out; have := HI.out; omega)
   have hjs : j < cs.size := by have := HS.out.1; omega
   have hcell : wr.cell? ⟨w.heap.size, j, none⟩ = some (cs.getD j undef) := by rw [blk_cell HB.out j, Array.getElem?_eq_getElem hjs]; simp [Array.getD, hjs]
   have hfr := blk_frozen HB.out j
   clear hi hn
   have HJ := Aside0.mk (And.intro hj1 (And.intro hn2 hjs))
   clear hn2 hjs
   go_wp2
   go_roundw
   case measure => simp [intOf]; omega
   case rel =>
    have hd1 : c % 16 < digS.size := by show c % 16 < 36; omega
    have hd2 : digS[c % 16] = hexd (c % 16) := by
     have := digS_at (c % 16) (by omega)
     have h3 := (List.getElem?_eq_some_iff.1 this).2
     rw [← h3]; rfl
    refine ⟨c / 16, j, n + 1, hexd (c % 16) :: ds, cs.setIfInBounds j (.int .u8 ((digS[c % 16]'hd1).toNat : Int)), by go_num, by go_num, ⟨by have := HI.out; omega, by have := HJ.out; omega, by have := HI.out; omega⟩, ⟨?_⟩, ⟨?_⟩, ⟨by simpa using HS.out.1, ?_⟩, ⟨?_⟩, ⟨below_set HQ.out (Nat.le_refl _)⟩⟩
    ·have h1 := HC.out
     rw [show 12 - n = (12 - (n + 1)) + 1 from by have := HJ.out; omega, Nat.pow_succ] at h1
     omega
    ·rw [HX.out, hexN_hi c (by omega)]; simp
    ·rw [drop_set cs j _ _ HJ.out.2.2 HS.out.2, hd2]; rfl
    ·exact blk_set HB.out j _
  ·obtain ⟨j, hj⟩ : ∃ j, i = j + 1 := ⟨i - 1, by omega⟩
   subst hj
   have hjs : j < cs.size := by have := HS.out.1; omega
   have hcell : wr.cell? ⟨w.heap.size, j, none⟩ = some (cs.getD j undef) := by rw [blk_cell HB.out j, Array.getElem?_eq_getElem hjs]; simp [Array.getD, hjs]
   have hfr := blk_frozen HB.out j
   have hj2 : j ≤ 64 := by omega
   clear hi hn
   have HJ := Aside0.mk hjs
   clear hjs
   have hal : Tryd.prog.arrayLen 121 = 65 := by kernel_rfl
   have hsl : ∀ W, (Instr.sliceAt 121 (.pointer (some ⟨w.heap.size, 0, none⟩)) (some (.int .i64 (j : Int))) none none).run Tryd.prog W = .ok (.slice (some ⟨w.heap.size, j, none⟩) (65 - j) (65 - j)) W := fun W => by
    rw [run_sliceAt_array_l W 121 ⟨w.heap.size, 0, none⟩ (by kernel_rfl) .i64 (j : Int) (by omega) (by rw [hal]; omega)]
    go_simp
    try omega
   clear hal
   have hlen : (il8 (hexd c :: ds)).length = 65 - j := by
    have h1 := congrArg List.length HS.out.2
    have h2 := HS.out.1
    simp [il8] at h1 ⊢
    omega
   have HC2 : ∀ h : c < digS.size, Kd.C (Kd.int .u8) (wr.setCell ⟨w.heap.size, j, none⟩ (.int .u8 ((digS[c]'h).toNat : Int))) (some ⟨w.heap.size, j, none⟩) (65 - j) (il8 (hexd c :: ds)) := fun h => by
    rw [← hlen]
    have hd2 : digS[c] = hexd c := by
     have := digS_at c (by omega)
     have h3 := (List.getElem?_eq_some_iff.1 this).2
     rw [← h3]; rfl
    refine C_blk j _ (blk_set HB.out j _) ?_ (by rw [hlen]; omega)
    rw [drop_set cs j _ _ HJ.out HS.out.2, hd2]; rfl
   have HC2 := Lib.hid HC2
   have HW2 : ∀ v, Below w.heap.size w (wr.setCell ⟨w.heap.size, j, none⟩ v) := fun v => below_set HQ.out (Nat.le_refl _)
   have HW2 := Lib.hid HW2
   have HHX : hexN u = hexN c ++ ds := HX.out
   rw [hexN_lo c (by omega)] at HHX
   have HHX := Lib.hid HHX
   have HLE := Lib.hid hlen
   clear hlen
   have Hle : w0.heap.size ≤ w.heap.size := HBw.out.size
   have Hle := Lib.hid Hle
   go_wp2_with ((with_reducible refine gate_builtin (b := .append) (xs := #[.tmp 95, .tmp 97]) rfl ?_); at_builtin; refine Kd.R_append_rows (Kd.int .u8) (w0 := w0) w0.heap.size rfl (.tmp 95) (.tmp 97) 22 5 (.int .u8 0) 1 rfl Tryd.underlying22 info5 rfl (by decide) (by omega) u9 l0 (il8 (hexd c :: ds)) (some ⟨w.heap.size, j, none⟩) (65 - j) (65 - j) (fun k => P0_ k ∨ w.heap.size ≤ k) (fun _ => False) rfl rfl ?aO ?aR (fun _ _ h => h) (fun _ h => h.elim) ?aF ?aB ?aS ?aL ?_; (case aR => exact HC2.out _); (case aO => exact Kd.R_mono (Kd.R_below HO.out (HW2.out _)) (fun k h => .inl h)); (case aF => exact fun k h => .inr (Nat.le_trans (HW2.out _).size h)); (case aB => exact (HBw.out.trans ((HW2.out _).mono Hle.out))); (case aS => exact Nat.le_trans Hle.out (HW2.out _).size); (case aL => have := HL.out; have := HLE.out; omega); intro v1 w1 ho hb hg hat; have HO2 := Aside0.mk ho; have HB2 := Aside0.mk hb; have HG2 := Aside0.mk (Kept.of_grown hg (Kept.of_below (HW2.out _) P0_) (fun k hk => .inl (HO.out.1 k hk))); clear ho hb hg hat)
   go_ret2
   refine ⟨_, rfl, ?_, HB2.out, HG2.out⟩
   rw [HHX.out]
   exact HO2.out
def strconv_AppendInt.f (l0 : List Int) (a1 a2 : Int) : Option (List Int) := if a2 = 16 ∧ 0 ≤ a1 ∧ a1 < 281474976710656 ∧ l0.length < 140737488355000 then some (l0 ++ il8 (hexN a1.toNat)) else none
theorem tz16 (w0 w : World) (hG : GW w0) (hb : Below w0.heap.size w0 w) : ∀ w', Below w.heap.size w w' → Calls Tryd.prog 76 #[.int .u64 16] w' fun e w'' => e = .returned (.int .i64 4) ∧ w'' = w' := by
 intro w' hb'
 have h1 := (GW.now hG).on hb
 have h2 := h1.on hb'
 exact Any7.bits_TrailingZeros Tryd.l7_27 16 (by decide) w' (fun _ => h2.db64)
theorem AppendUint_16 (P0_ : Nat → Prop) (u9 : Value) (l0 : List Int) (u : Nat) (hu : u < 281474976710656) (hl0 : l0.length < 140737488355000) (w0 w : World) (hG : GW w0) (hBw : Below w0.heap.size w0 w) (ho0 : Kd.R (Kd.int .u8) 5 w w0.heap.size P0_ u9 l0) :
  Calls Tryd.prog 56 #[u9, .int .u64 u, .int .i64 16] w fun e w' => ∃ v0_ : Value, e = .returned v0_ ∧ Kd.R (Kd.int .u8) 5 w' w0.heap.size (fun k_ => P0_ k_ ∨ w.heap.size ≤ k_) v0_ (l0 ++ il8 (hexN u)) ∧ Below w0.heap.size w0 w' ∧ Kept w w' (fun k_ => P0_ k_) := by
 have H := Lib.hid (formatBits_16 P0_ u9 l0 u hu hl0 w0 w hBw ho0 (tz16 w0 w hG hBw))
 clear hu hl0 hBw ho0
 go_enter Tryd.func56, Tryd.ntmps56
 go_wp2_with (go_at_call 67; refine H.out.mono ?_; rintro e w' ⟨v0, rfl, h1, h2, h3⟩; have H1 := Lib.hid h1; have H2 := Lib.hid h2; have H3 := Lib.hid h3; clear h1 h2 h3)
 go_ret
 exact ⟨_, rfl, H1.out, H2.out, H3.out⟩
theorem AppendInt_16 (P0_ : Nat → Prop) (u9 : Value) (l0 : List Int) (u : Nat) (hu : u < 281474976710656) (hl0 : l0.length < 140737488355000) (w0 w : World) (hG : GW w0) (hBw : Below w0.heap.size w0 w) (ho0 : Kd.R (Kd.int .u8) 5 w w0.heap.size P0_ u9 l0) :
  Calls Tryd.prog 44 #[u9, .int .i64 u, .int .i64 16] w fun e w' => ∃ v0_ : Value, e = .returned v0_ ∧ Kd.R (Kd.int .u8) 5 w' w0.heap.size (fun k_ => P0_ k_ ∨ w.heap.size ≤ k_) v0_ (l0 ++ il8 (hexN u)) ∧ Below w0.heap.size w0 w' ∧ Kept w w' (fun k_ => P0_ k_) := by
 have H := Lib.hid (AppendUint_16 P0_ u9 l0 u hu hl0 w0 w hG hBw ho0)
 have hw : IntKind.u64.wrap (u : Int) = (u : Int) := by rw [IntKind.wrap_u64]; omega
 clear hu hl0 hBw ho0
 go_enter Tryd.func44, Tryd.ntmps44
 go_wp2_with (go_at_call 56; refine H.out.mono ?_; rintro e w' ⟨v0, rfl, h1, h2, h3⟩; have H1 := Lib.hid h1; have H2 := Lib.hid h2; have H3 := Lib.hid h3; clear h1 h2 h3)
 go_ret
 exact ⟨_, rfl, H1.out, H2.out, H3.out⟩
theorem strconv_AppendInt.calls (P0_ : Nat → Prop) (u9000_ : Value) (l0 : List Int) (a1 a2 : Int) (r : List Int) (w0 w : World) (hB : Below w0.heap.size w0 w) (ho0 : Kd.R (Kd.int .u8) 5 w w0.heap.size P0_ u9000_ l0) (h : strconv_AppendInt.f l0 a1 a2 = some r) (hG : GW w0 := by first | (exact Aside0.out (by assumption)) | (refine GW.via (by assumption) ?_; repeat (first | (exact Aside0.out (by assumption)) | exact Below.refl _ _ | apply below_alloc | apply pw_below_drewN | apply below_drew1 | (refine below_set ?_ (Aside0.out (by assumption)))))) :
  Calls Tryd.prog 30 #[u9000_, .int .i64 a1, .int .i64 a2] w fun e w' => ∃ v0_ : Value, e = .returned v0_ ∧ Kd.R (Kd.int .u8) 5 w' w0.heap.size (fun k_ => P0_ k_ ∨ w.heap.size ≤ k_) v0_ r ∧ Below w0.heap.size w0 w' ∧ Kept w w' (fun k_ => P0_ k_) := by
 unfold strconv_AppendInt.f at h
 split at h
 case isFalse => cases h
 rename_i hc
 obtain ⟨rfl, h0, h1, h2⟩ := hc
 have Hr := Lib.hid (Option.some.inj h)
 clear h
 obtain ⟨u, rfl⟩ := Int.eq_ofNat_of_zero_le h0
 have H := Lib.hid (AppendInt_16 P0_ u9000_ l0 u (by omega) h2 w0 w hG hB ho0)
 clear h0 h1 h2 hB ho0
 go_enter Tryd.func30, Tryd.ntmps30
 go_wp2_with (go_at_call 44; refine H.out.mono ?_; rintro e w' ⟨v0, rfl, h1, h2, h3⟩; have H1 := Lib.hid h1; have H2 := Lib.hid h2; have H3 := Lib.hid h3; clear h1 h2 h3)
 go_ret
 exact ⟨_, rfl, by rw [← Hr.out]; exact H1.out, H2.out, H3.out⟩
/-! ### body_chunk: function 23 -/
def body_chunk.f (l0 : List Int) (l1 : List Int) : Option (List Int) := (strconv_AppendInt.f l0 (l1.length : Int) 16).bind fun t105 => (if t105.length + 2 < 140737488355328 then ((some (t105 ++ bytesOf (⟨#[13, 10]⟩ : ByteArray) : List Int)).bind fun y108 => (if y108.length + l1.length < 140737488355328 then ((some (y108 ++ l1 : List Int)).bind fun y111 => (if y111.length + 2 < 140737488355328 then (some (y111 ++ bytesOf (⟨#[13, 10]⟩ : ByteArray))) else (none))) else (none))) else (none))
set_option maxHeartbeats 8000000 in
set_option maxRecDepth 100000 in
theorem body_chunk.calls (P0_ : Nat → Prop) (u9000_ : Value) (l0 : List Int) (A1 : Option Addr) (c1 : Nat) (l1 : List Int) (r : List Int) (w0 w : World) (hB : Below w0.heap.size w0 w) (ho0 : Kd.R (Kd.int .u8) 5 w w0.heap.size P0_ u9000_ l0) (hr1 : ∀ W_, Kept w W_ (fun k_ => P0_ k_) → Kd.C (Kd.int .u8) W_ A1 l1.length l1) (hc1 : l1.length ≤ c1) (h : body_chunk.f l0 l1 = some r) (hG : GW w0 := by first | (exact Aside0.out (by assumption)) | (refine GW.via (by assumption) ?_; repeat (first | (exact Aside0.out (by assumption)) | exact Below.refl _ _ | apply below_alloc | apply pw_below_drewN | apply below_drew1 | (refine below_set ?_ (Aside0.out (by assumption)))))) :
  Calls Tryd.prog 23 #[u9000_, .slice A1 l1.length c1] w fun e w' => ∃ v0_ : Value, e = .returned (v0_) ∧ Kd.R (Kd.int .u8) 5 w' w0.heap.size (fun k_ => (P0_ k_ ∨ w.heap.size ≤ k_)) v0_ r ∧ Below w0.heap.size w0 w' ∧ Kept w w' (fun k_ => P0_ k_) := by
 have HO0 := Aside0.mk (show Kd.R (Kd.int .u8) 5 w w0.heap.size (fun k_ => (P0_ k_ ∨ w.heap.size ≤ k_)) u9000_ l0 from Kd.R_mono ho0 (fun k_ hk => (.inl hk)))
 have HR1 := Aside0.mk hr1
 have HC1 := Aside0.mk hc1
 clear hr1 hc1
 have HK := Aside0.mk (Kept.refl w (fun k_ => P0_ k_))
 have HW0 := Aside0.mk hB.size
 have HB := Aside0.mk hB
 clear hB
 have HG := Aside0.mk hG
 clear hG
 have H : ((strconv_AppendInt.f l0 (l1.length : Int) 16).bind fun t105 => (if t105.length + 2 < 140737488355328 then ((some (t105 ++ bytesOf (⟨#[13, 10]⟩ : ByteArray) : List Int)).bind fun y108 => (if y108.length + l1.length < 140737488355328 then ((some (y108 ++ l1 : List Int)).bind fun y111 => (if y111.length + 2 < 140737488355328 then (some (y111 ++ bytesOf (⟨#[13, 10]⟩ : ByteArray))) else (none))) else (none))) else (none))) = some r := h
 clear h
 replace H := Option.bind_eq_some_iff.mp H
 obtain ⟨t105, A30, H⟩ := H
 (try dsimp only at H)
 have A3 := Aside0.mk A30
 clear A30
 by_cases c4 : t105.length + 2 < 140737488355328
 ·rw [if_pos c4] at H
  have LMc4 := Aside0.mk c4
  clear c4
  obtain ⟨y108, hy108⟩ : ∃ y_ : List Int, y_ = (t105 ++ bytesOf (⟨#[13, 10]⟩ : ByteArray)) := ⟨_, rfl⟩
  replace H : (if y108.length + l1.length < 140737488355328 then ((some (y108 ++ l1 : List Int)).bind fun y111 => (if y111.length + 2 < 140737488355328 then (some (y111 ++ bytesOf (⟨#[13, 10]⟩ : ByteArray))) else (none))) else (none)) = some r := by first | (rw [hy108]; with_reducible exact H) | (have H2_ := (Option.bind_some _ _).symm.trans H; rw [hy108]; with_reducible exact H2_) | (have H2_ := (Option.bind_some _ _).symm.trans H; with_reducible exact H2_) | with_reducible exact H | (rw [hy108]; exact H) | exact H
  have Ny108 := Aside0.mk hy108
  clear hy108
  by_cases c5 : y108.length + l1.length < 140737488355328
  ·rw [if_pos c5] at H
   have LMc5 := Aside0.mk c5
   clear c5
   obtain ⟨y111, hy111⟩ : ∃ y_ : List Int, y_ = (y108 ++ l1) := ⟨_, rfl⟩
   replace H : (if y111.length + 2 < 140737488355328 then (some (y111 ++ bytesOf (⟨#[13, 10]⟩ : ByteArray))) else (none)) = some r := by first | (rw [hy111]; with_reducible exact H) | (have H2_ := (Option.bind_some _ _).symm.trans H; rw [hy111]; with_reducible exact H2_) | (have H2_ := (Option.bind_some _ _).symm.trans H; with_reducible exact H2_) | with_reducible exact H | (rw [hy111]; exact H) | exact H
   have Ny111 := Aside0.mk hy111
   clear hy111
   by_cases c6 : y111.length + 2 < 140737488355328
   ·rw [if_pos c6] at H
    have LMc6 := Aside0.mk c6
    clear c6
    obtain ⟨y114, hy114⟩ : ∃ y_ : List Int, y_ = (y111 ++ bytesOf (⟨#[13, 10]⟩ : ByteArray)) := ⟨_, rfl⟩
    replace H : (some y114) = some r := by first | (rw [hy114]; with_reducible exact H) | (have H2_ := (Option.bind_some _ _).symm.trans H; rw [hy114]; with_reducible exact H2_) | (have H2_ := (Option.bind_some _ _).symm.trans H; with_reducible exact H2_) | with_reducible exact H | (rw [hy114]; exact H) | exact H
    have Ny114 := Aside0.mk hy114
    clear hy114
    obtain rfl := Option.some.inj H
    obtain ⟨Ao7, co7, eo7⟩ := Kd.R_slice HO0.out
    subst eo7
    go_enter Tryd.func23, Tryd.ntmps23
    go_wp2_with (first | ((with_reducible refine gate_callee (f := 30) rfl ?_); refine goesL_ (some 8) rfl rfl Tryd.func30 (by kernel_rfl) rfl #[.slice Ao7 l0.length co7, .int .i64 (l1.length : Int), .int .i64 16] rfl (by (try simp only [List.map_toArray, List.map_cons, List.map_nil]); first | done | rfl | (simp only [List.length_drop, List.length_take]; rfl)) ?_; (with_reducible refine (strconv_AppendInt.calls (fun k_ => some k_ = (.slice Ao7 l0.length co7 : Value).ownBlock) (.slice Ao7 l0.length co7) l0 (l1.length : Int) 16 t105 w0 _ ?side1 ?side2 A3.out).mono ?_); (case side1 => repeat (first | (with_reducible first | exact HB.out | apply below_alloc | apply pw_below_drewN | apply below_drew1) | exact HB.out)); (case side2 => exact Kd.R_tight rfl HO0.out); rintro e w8 ⟨v106, rfl, ho0, hb, hkp⟩; refine ⟨_, rfl, ?_⟩; have n0_ := Aside0.mk (Kd.R_mono (ok' := fun k_ => (P0_ k_ ∨ w.heap.size ≤ k_)) ho0 (fun k_ hk_ => Or.elim hk_ (fun hs_ => (HO0.out.1 k_ (hs_).symm)) (fun hn_ => (.inr (Nat.le_trans (by first | exact HK.out.1 | exact (show Kept w _ (fun k_ => P0_ k_) from by repeat (first | (with_reducible first | exact HK.out | apply Kept.alloc | apply Kept.drewN | apply Kept.drew) | exact HK.out)).1) hn_))))); have n1_ := Aside0.mk (Kept.then_ (S := (fun k_ => P0_ k_)) (by repeat (first | (with_reducible first | exact HK.out | apply Kept.alloc | apply Kept.drewN | apply Kept.drew) | exact HK.out)) hkp (fun k_ hs_ => (fun e_ => (HO0.out.1 k_ e_.symm)) hs_)); have n2_ := Aside0.mk (hb); clear HK; clear HB; clear HO0; have HO107 := n0_; have HK := n1_; have HB := n2_; clear n0_ n1_ n2_; (try clear hb); (try clear hkp); (try clear ho0)) | (at_builtin; refine app_str_at (w0 := w0) w0.heap.size rfl (.tmp 8) _ 22 9 5 rfl Tryd.underlying22 Tryd.underlying9 info5 v106 t105 (⟨#[13, 10]⟩ : ByteArray) rfl rfl ?aO ?aB ?aS ?aL ?_; (case aB => exact (by repeat (first | (with_reducible first | exact HB.out | apply below_alloc | apply pw_below_drewN | apply below_drew1) | exact HB.out))); (case aO => exact (Kd.own_of_R (by (with_reducible repeat (first | apply Kd.R_alloc | apply Kd.R_drewN | apply Kd.R_drew)); exact HO107.out))); (case aS => exact (below_size (by repeat (first | (with_reducible first | exact HB.out | apply below_alloc | apply pw_below_drewN | apply below_drew1) | exact HB.out)))); (case aL => have := LMc4.out; first | omega | (simp only [ByteArray.size, List.size_toArray, List.length_cons, List.length_nil]; omega)); intro v109 w9 ho0 hb hg hat0; have ho := Kd.R_of_own (h1 := fun _ => rfl) (ok := (fun k_ => (P0_ k_ ∨ w.heap.size ≤ k_))) ho0 (fun k_ e_ => Or.elim (hat0 k_ e_) (fun e2_ => (show Kd.R (Kd.int .u8) 5 w8 w0.heap.size (fun k_ => (P0_ k_ ∨ w.heap.size ≤ k_)) v106 t105 from (by (with_reducible repeat (first | apply Kd.R_alloc | apply Kd.R_drewN | apply Kd.R_drew)); exact HO107.out)).1 k_ e2_) ((show ∀ k_, w8.heap.size ≤ k_ → ((fun k_ => (P0_ k_ ∨ w.heap.size ≤ k_))) k_ from (fun k_ hk => (.inr (Nat.le_trans (by first | exact HK.out.1 | exact (show Kept w _ (fun k_ => P0_ k_) from by repeat (first | (with_reducible first | exact HK.out | apply Kept.alloc | apply Kept.drewN | apply Kept.drew) | exact HK.out)).1) hk)))) k_)); clear ho0 hat0; have hat := True.intro; rw [← Ny108.out] at ho; change Kd.R (Kd.int .u8) 5 w9 w0.heap.size (fun k_ => (P0_ k_ ∨ w.heap.size ≤ k_)) v109 y108 at ho; have n0_ := Aside0.mk (hb); have n1_ := Aside0.mk (Kept.of_grown (S := (fun k_ => P0_ k_)) hg (by repeat (first | (with_reducible first | exact HK.out | apply Kept.alloc | apply Kept.drewN | apply Kept.drew) | exact HK.out)) (fun k_ e_ => (HO107.out.1 k_ e_))); have n2_ := Aside0.mk (ho); clear HB; clear HK; clear HO107; have HB := n0_; have HK := n1_; have HO110 := n2_; clear n0_ n1_ n2_; clear ho hb hg hat) | ((with_reducible refine gate_builtin (b := .append) (xs := #[.tmp 10, .tmp 11]) rfl ?_); at_builtin; refine Kd.R_append_rows (Kd.int .u8) (w0 := w0) w0.heap.size rfl (.tmp 10) (.tmp 11) 22 5 (.int .u8 0) 1 rfl Tryd.underlying22 info5 rfl (by decide) (by omega) v109 y108 l1 _ _ _ (fun k_ => (P0_ k_ ∨ w.heap.size ≤ k_)) (fun _ => False) rfl rfl ?aO ?aR (fun _ _ h => h) (fun _ h => h.elim) ?aF ?aB ?aS ?aL ?_; (case aR => exact Kd.C_kept_now HR1.out (by repeat (first | (with_reducible first | exact HK.out | apply Kept.alloc | apply Kept.drewN | apply Kept.drew) | exact HK.out))); (case aB => exact (by repeat (first | (with_reducible first | exact HB.out | apply below_alloc | apply pw_below_drewN | apply below_drew1) | exact HB.out))); (case aF => exact (fun k_ hk => (.inr (Nat.le_trans (by first | exact HK.out.1 | exact (show Kept w _ (fun k_ => P0_ k_) from by repeat (first | (with_reducible first | exact HK.out | apply Kept.alloc | apply Kept.drewN | apply Kept.drew) | exact HK.out)).1) hk)))); (case aO => exact (by (with_reducible repeat (first | apply Kd.R_alloc | apply Kd.R_drewN | apply Kd.R_drew)); exact HO110.out)); (case aS => exact (below_size (by repeat (first | (with_reducible first | exact HB.out | apply below_alloc | apply pw_below_drewN | apply below_drew1) | exact HB.out)))); (case aL => have := LMc5.out; first | omega | (simp only [ByteArray.size, List.size_toArray, List.length_cons, List.length_nil]; omega)); intro v112 w10 ho hb hg hat; rw [← Ny111.out] at ho; have n0_ := Aside0.mk (hb); have n1_ := Aside0.mk (Kept.of_grown (S := (fun k_ => P0_ k_)) hg (by repeat (first | (with_reducible first | exact HK.out | apply Kept.alloc | apply Kept.drewN | apply Kept.drew) | exact HK.out)) (fun k_ e_ => (HO110.out.1 k_ e_))); have n2_ := Aside0.mk (ho); clear HB; clear HK; clear HO110; have HB := n0_; have HK := n1_; have HO113 := n2_; clear n0_ n1_ n2_; clear ho hb hg hat) | (at_builtin; refine app_str_at (w0 := w0) w0.heap.size rfl (.tmp 12) _ 22 9 5 rfl Tryd.underlying22 Tryd.underlying9 info5 v112 y111 (⟨#[13, 10]⟩ : ByteArray) rfl rfl ?aO ?aB ?aS ?aL ?_; (case aB => exact (by repeat (first | (with_reducible first | exact HB.out | apply below_alloc | apply pw_below_drewN | apply below_drew1) | exact HB.out))); (case aO => exact (Kd.own_of_R (by (with_reducible repeat (first | apply Kd.R_alloc | apply Kd.R_drewN | apply Kd.R_drew)); exact HO113.out))); (case aS => exact (below_size (by repeat (first | (with_reducible first | exact HB.out | apply below_alloc | apply pw_below_drewN | apply below_drew1) | exact HB.out)))); (case aL => have := LMc6.out; first | omega | (simp only [ByteArray.size, List.size_toArray, List.length_cons, List.length_nil]; omega)); intro v115 w11 ho0 hb hg hat0; have ho := Kd.R_of_own (h1 := fun _ => rfl) (ok := (fun k_ => (P0_ k_ ∨ w.heap.size ≤ k_))) ho0 (fun k_ e_ => Or.elim (hat0 k_ e_) (fun e2_ => (show Kd.R (Kd.int .u8) 5 w10 w0.heap.size (fun k_ => (P0_ k_ ∨ w.heap.size ≤ k_)) v112 y111 from (by (with_reducible repeat (first | apply Kd.R_alloc | apply Kd.R_drewN | apply Kd.R_drew)); exact HO113.out)).1 k_ e2_) ((show ∀ k_, w10.heap.size ≤ k_ → ((fun k_ => (P0_ k_ ∨ w.heap.size ≤ k_))) k_ from (fun k_ hk => (.inr (Nat.le_trans (by first | exact HK.out.1 | exact (show Kept w _ (fun k_ => P0_ k_) from by repeat (first | (with_reducible first | exact HK.out | apply Kept.alloc | apply Kept.drewN | apply Kept.drew) | exact HK.out)).1) hk)))) k_)); clear ho0 hat0; have hat := True.intro; rw [← Ny114.out] at ho; change Kd.R (Kd.int .u8) 5 w11 w0.heap.size (fun k_ => (P0_ k_ ∨ w.heap.size ≤ k_)) v115 y114 at ho; have n0_ := Aside0.mk (hb); have n1_ := Aside0.mk (Kept.of_grown (S := (fun k_ => P0_ k_)) hg (by repeat (first | (with_reducible first | exact HK.out | apply Kept.alloc | apply Kept.drewN | apply Kept.drew) | exact HK.out)) (fun k_ e_ => (HO113.out.1 k_ e_))); have n2_ := Aside0.mk (ho); clear HB; clear HK; clear HO113; have HB := n0_; have HK := n1_; have HO116 := n2_; clear n0_ n1_ n2_; clear ho hb hg hat))
    go_ret
    exact ⟨_, by first | rfl | (simp <;> rfl) | (simp [*] <;> rfl) | (simp [ne_nil_B, eq_nil_B]; done) | (simp [ne_nil_B, eq_nil_B] <;> rfl), by (with_reducible repeat (first | apply Kd.R_alloc | apply Kd.R_drewN | apply Kd.R_drew)); exact HO116.out, by repeat (first | (with_reducible first | exact HB.out | apply below_alloc | apply pw_below_drewN | apply below_drew1) | exact HB.out), by repeat (first | (with_reducible first | exact HK.out | apply Kept.alloc | apply Kept.drewN | apply Kept.drew) | exact HK.out)⟩
   ·rw [if_neg c6] at H
    exact absurd H (by simp)
  ·rw [if_neg c5] at H
   exact absurd H (by simp)
 ·rw [if_neg c4] at H
  exact absurd H (by simp)
end Go.Proofs.YtodfjcmjoogcgaaDoor.P
