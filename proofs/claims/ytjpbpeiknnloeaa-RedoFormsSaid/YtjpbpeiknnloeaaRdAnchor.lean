/-
The laws' anchor on a journal: true.
-/
import Derived.Test.YtjpbpeiknnloeaaRdSteps
namespace Go.Proofs.Ytjpbpeiknnloeaa.Dk
open Go.RowKit Go.Maps Go.Proofs.YtjpbpeiknnloeaaW.PrintWords Go.Proofs.YtjpbpeiknnloeaaW.PrintLast Go.Proofs.YtjpbpeiknnloeaaW.PrintMore
set_option linter.unusedVariables false
set_option linter.unusedSimpArgs false

theorem two_changes (w : World) (S : Nat → Prop) (hs : ∀ k, S k → k < w.heap.size) (n1 x1 n2 x2 : Int) :
    Chs S (((w.alloc (.cells #[.int .u8 x1] 5)).alloc (.cells #[.int .u8 x2] 5)).alloc (.cells #[.int .i64 n1, .slice (some ⟨w.heap.size, 0, none⟩) 1 1, .int .i64 n2, .slice (some ⟨w.heap.size + 1, 0, none⟩) 1 1] 47)) (some ⟨w.heap.size + 2, 0, none⟩) [(n1, [x1]), (n2, [x2])] := by
  have b1 := bytes_new w [x1] 5 (by simp)
  have b2 := bytes_new (w.alloc (.cells #[.int .u8 x1] 5)) [x2] 5 (by simp)
  have e1 : (w.alloc (.cells #[.int .u8 x1] 5)).heap.size = w.heap.size + 1 := by simp
  rw [e1] at b2
  have hS : ∀ W, BytesAt W w.heap.size [x1] → Sees S W ⟨some ⟨w.heap.size, 0, none⟩, 1, 1⟩ [x1] := fun W h => ⟨rfl, by simp, fun w' ho => (h.only ho (fun hk => by have := hs _ hk; omega)).reads⟩
  have hS2 : ∀ W, BytesAt W (w.heap.size + 1) [x2] → Sees S W ⟨some ⟨w.heap.size + 1, 0, none⟩, 1, 1⟩ [x2] := fun W h => ⟨rfl, by simp, fun w' ho => (h.only ho (fun hk => by have := hs _ hk; omega)).reads⟩
  have hR : Kd.R chK 47 (((w.alloc (.cells #[.int .u8 x1] 5)).alloc (.cells #[.int .u8 x2] 5)).alloc (.cells #[.int .i64 n1, .slice (some ⟨w.heap.size, 0, none⟩) 1 1, .int .i64 n2, .slice (some ⟨w.heap.size + 1, 0, none⟩) 1 1] 47)) (w.heap.size + 2) (fun k => w.heap.size + 2 ≤ k) (.slice (some ⟨w.heap.size + 2, 0, none⟩) 2 2) [(n1, ⟨some ⟨w.heap.size, 0, none⟩, 1, 1⟩), (n2, ⟨some ⟨w.heap.size + 1, 0, none⟩, 1, 1⟩)] := by
    have e2 : ((w.alloc (.cells #[.int .u8 x1] 5)).alloc (.cells #[.int .u8 x2] 5)).heap.size = w.heap.size + 2 := by simp
    have := OwnRow.lit (e := 47) ((w.alloc (.cells #[.int .u8 x1] 5)).alloc (.cells #[.int .u8 x2] 5)) (w.heap.size + 2) (Reps.c2 (M_ch (((w.alloc (.cells #[.int .u8 x1] 5)).alloc (.cells #[.int .u8 x2] 5)).alloc (.cells #[.int .i64 n1, .slice (some ⟨w.heap.size, 0, none⟩) 1 1, .int .i64 n2, .slice (some ⟨w.heap.size + 1, 0, none⟩) 1 1] 47)) (w.heap.size + 2) (fun k => w.heap.size + 2 ≤ k) n1 ⟨some ⟨w.heap.size, 0, none⟩, 1, 1⟩) (Reps.c2 (M_ch _ _ _ n2 ⟨some ⟨w.heap.size + 1, 0, none⟩, 1, 1⟩) (Reps.none _ _))) (by rw [e2]; exact Nat.le_refl _) (by simp)
    rw [e2] at this
    exact ⟨fun k hk => by simp [Value.ownBlock] at hk; omega, this⟩
  refine Chs.of_own hR (fun k hk h => by have := hs k h; omega) rfl ?_
  intro j v x hv hx
  rcases j with _ | _ | j
  · obtain rfl := Option.some.inj hv
    obtain rfl := Option.some.inj hx
    exact ⟨rfl, (hS _ b1).step ((Only.alloc S _ _).trans (Only.alloc S _ _))⟩
  · obtain rfl := Option.some.inj hv
    obtain rfl := Option.some.inj hx
    exact ⟨rfl, (hS2 _ b2).step (Only.alloc S _ _)⟩
  · simp at hv
namespace An
def l1 : List Ch := [(3, [1]), (5, [2])]
def l2 : List Ch := [(3, [7]), (5, [8])]
def D0 : PD := PD.new 110
theorem j1 : Job 110 l1 := Job.of_right (by decide) (by decide) (by decide)
theorem j2 : Job 110 l2 := Job.of_right (by decide) (by decide) (by decide)
theorem r0 : Rests 110 (fun _ => nought) D0 := Rests.new (by decide) (by decide)
theorem u0 : D0.Up := PD.Up.new 110
theorem o0 : D0.open_ = (0, D0) := open_rests r0 (by decide) rfl
theorem do_of {n : Nat} {D : PD} {l : List Ch} {e : Int} {b : Bool} (hn : D.n = n) (hj : Job n l) (h1 : (D.doJob l).1 = e) (hb : decide (e ≠ 0) = b) : D.do_ false l = (e, (D.doJob l).2, b) := by
  unfold PD.do_
  rw [if_neg (by decide), if_neg (by rw [hn, hj.right]; decide), h1, hb]
/-- A job, a second one that is cut off behind its head, and what is opened then. -/
theorem two_jobs {n : Nat} {D : PD} {f : Sect} {l l' : List Ch} (h : Rests n f D) (hu : D.Up) (hj : Job n l) (hj' : Job n l') (k : Nat) (hk : k = l'.length + 6) : ∃ D1 D2 D4 : PD, D.do_ false l = (0, D1, false) ∧ (D1.arm k).do_ false l' = (40, D2, true) ∧ (D2.crash []).open_ = (0, D4) ∧ (D2.crash []).Low ∧ D2.n = n ∧ D1.n = n ∧ ∀ i m : Nat, n = 100 + m → i < m → D4.rread false (i : Int) = (wrote (ats l') (wrote (ats l) f) (100 + i), 0) := by
  have h1 := doJob_ends hj h
  obtain ⟨a1, u1⟩ := h1.up hu
  have r1 := h1.done a1
  have hle := hj'.le
  have r1a := r1.arm (k := (k : Int)) (by omega)
  obtain ⟨a2, m2⟩ := doJob_cut hj' r1a (by subst hk; exact ⟨u1.down, by show max _ _ = _; omega⟩)
  have e3 := open_mc hj' (crash_settled _ []) rfl (m2.crash [])
  obtain ⟨a4, u4⟩ := e3.up (PD.Up.crash _ _)
  have r4 := e3.done a4
  refine ⟨_, _, _, do_of h.size hj a1 (by decide), do_of r1a.size hj' a2 (by decide), Prod.ext a4 rfl, (Inv.c (m2.crash [])).low (crash_settled _ _), m2.size, r1.size, fun i m hm hi => (r4.rread u4.down hm hi).1⟩
theorem rd3 : wrote (ats l2) (wrote (ats l1) fun _ => nought) (100 + 3) = pad [7] := rfl
theorem rd5 : wrote (ats l2) (wrote (ats l1) fun _ => nought) (100 + 5) = pad [8] := rfl
end An
set_option maxHeartbeats 4000000 in
set_option maxRecDepth 1000000 in
theorem anchor_true (w : World) : Calls Try.prog 8 #[] w fun e w' => e = .returned (.bool true) ∧ Below w.heap.size w w' := by
  obtain ⟨D1, D2, D4, x1, x2, x3, x4, x5, x6, x7⟩ := An.two_jobs An.r0 An.u0 An.j1 An.j2 8 rfl
  have hr3 := x7 3 10 rfl (by decide)
  have hr5 := x7 5 10 rfl (by decide)
  rw [An.rd3] at hr3
  rw [An.rd5] at hr5
  have X1 := Fact.mk x1
  have X2 := Fact.mk x2
  have X3 := Fact.mk x3
  have X4 := Fact.mk x4
  have X5 := Fact.mk x5
  have X6 := Fact.mk x6
  have R3 := Fact.mk hr3
  have R5 := Fact.mk hr5
  clear x1 x2 x3 x4 x5 x6 x7 hr3 hr5
  go_enter Try.func8, Try.ntmps8
  go_wp2_with fail
  refine (New_law w (Below.refl _ _) (n := 110) (by omega) (by omega)).mono ?_
  rintro e w1 ⟨L, rfl, h1⟩
  have H1 := Fact.mk h1
  clear h1
  go_wp2_with fail
  refine (Open_first H1.out (by decide) An.r0.lows An.o0).mono ?_
  rintro e w2 ⟨q, rfl, h2⟩
  have H2 := Fact.mk h2
  clear h2 H1
  go_wp2_with fail
  refine (RLen_any H2.out.disk H2.out.redo).mono ?_
  rintro e w0 ⟨rfl, rfl⟩
  rw [show ((An.D0.n : Int) - 100) = 10 from rfl]
  go_wp2_with fail
  have HCh := two_changes w2 (RS L q) H2.out.lt 3 1 5 2
  have H3 := H2.out.step (((Below.refl w2.heap.size w2).alloc (Nat.le_refl _) (.cells #[.int .u8 1] 5) |>.alloc (by simp) (.cells #[.int .u8 2] 5)).alloc (by simp; omega) (.cells #[.int .i64 3, .slice (some ⟨w2.heap.size, 0, none⟩) 1 1, .int .i64 5, .slice (some ⟨w2.heap.size + 1, 0, none⟩) 1 1] 47))
  refine (Do_law H3 _ 2 (l := An.l1) HCh X1.out).mono ?_
  rintro e w4 ⟨rfl, h4, -⟩
  have H4 := Fact.mk h4
  clear h4 HCh H3 H2
  go_wp2_with fail
  refine (Arm_law H4.out 8 (by decide)).mono ?_
  rintro e w5 ⟨rfl, h5, -⟩
  have H5 := Fact.mk h5
  clear h5 H4
  go_wp2_with fail
  have HCh := two_changes w5 (RS L q) H5.out.lt 3 7 5 8
  have H6 := H5.out.step (((Below.refl w5.heap.size w5).alloc (Nat.le_refl _) (.cells #[.int .u8 7] 5) |>.alloc (by simp) (.cells #[.int .u8 8] 5)).alloc (by simp; omega) (.cells #[.int .i64 3, .slice (some ⟨w5.heap.size, 0, none⟩) 1 1, .int .i64 5, .slice (some ⟨w5.heap.size + 1, 0, none⟩) 1 1] 47))
  refine (Do_law H6 _ 2 (l := An.l2) HCh X2.out).mono ?_
  rintro e w7 ⟨rfl, h7, -⟩
  have H7 := Fact.mk h7
  clear h7 HCh H6 H5
  go_wp2_with fail
  refine (Broken_any H7.out.redo).mono ?_
  rintro e w0 ⟨rfl, rfl⟩
  go_wp2_with fail
  refine (Crash_law H7.out none 0 [] (fun W _ => ⟨rfl, by simp, fun h => absurd h (by simp)⟩)).mono ?_
  rintro e w8 ⟨rfl, h8, -⟩
  have H8 := Fact.mk h8
  clear h8 H7
  go_wp2_with fail
  refine (Open_law H8.out (by show 100 < D2.n; rw [X5.out]; decide) X4.out X3.out).mono ?_
  rintro e w9 ⟨q', rfl, -, h9, -⟩
  have H9 := Fact.mk h9
  clear h9 H8
  go_wp2_with fail
  have HR := RRead_any H9.out.disk H9.out.redo 3
  rw [show D4.rread false 3 = (pad [7], 0) from R3.out] at HR
  refine HR.mono ?_
  clear HR
  rintro e w10 ⟨v, rfl, r10, b10⟩
  obtain ⟨A10, c10, rfl, -, -⟩ := Kd.R_reads r10
  obtain ⟨g10, c10', e10, -, -⟩ := (Kd.own_of_R r10).form (by rw [pad_length]; decide)
  injection e10 with e10 e11 e12
  clear e11
  subst e10 e12
  rw [pad_length] at r10 ⊢
  have H10 := Fact.mk (H9.out.step b10)
  have K10 := Fact.mk (own_cell r10 0 7 rfl)
  have hg10 := (Array.getElem?_eq_some_iff.1 (own_typed (Kd.own_of_R r10) g10 (by simp [Value.ownBlock])).choose_spec).1
  replace hg10 := Fact.mk hg10
  clear r10 b10 H9
  go_wp2_with fail
  have HR := RRead_any H10.out.disk H10.out.redo 5
  rw [show D4.rread false 5 = (pad [8], 0) from R5.out] at HR
  refine HR.mono ?_
  clear HR
  rintro e w11 ⟨v, rfl, r11, b11⟩
  obtain ⟨A11, c11, rfl, -, -⟩ := Kd.R_reads r11
  obtain ⟨g11, c11', e11, -, -⟩ := (Kd.own_of_R r11).form (by rw [pad_length]; decide)
  injection e11 with e11 e12 e13
  clear e12
  subst e11 e13
  rw [pad_length] at r11 ⊢
  have H11 := Fact.mk (H10.out.step b11)
  have k11 := own_cell r11 0 8 rfl
  have k10 : w11.cell? ⟨g10, 0, none⟩ = some (.int .u8 7) := (b11.cell (p := ⟨g10, 0, none⟩) hg10.out).trans K10.out
  clear r11 b11 H10
  go_wp2_with fail
  go_ret
  exact ⟨rfl, H11.out.below⟩
end Go.Proofs.Ytjpbpeiknnloeaa.Dk
