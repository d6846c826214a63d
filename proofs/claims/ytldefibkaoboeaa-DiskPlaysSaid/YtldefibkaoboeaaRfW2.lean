/-
What the reference's Write, Flush and Crash do.
-/
import Derived.Test.YtldefibkaoboeaaRfW1
import Derived.StillTailTactics
namespace Go.Proofs.Ytldefibkaoboeaa.Dk
open Go.RowKit Go.Maps Go.Proofs.YtldefibkaoboeaaW.PrintWords Go.Proofs.YtldefibkaoboeaaW.PrintLast Go.Proofs.YtldefibkaoboeaaW.PrintMore
set_option linter.unusedVariables false
set_option linter.unusedSimpArgs false

section
variable {w : World} {R : RL} {D : PD}
def RDoes (w : World) (R : RL) (r : Int × PD) (e : Ending) (w' : World) : Prop := e = .returned (.int .i64 r.1) ∧ RNow w R r.2 w'
theorem zc_list : zc.toList = zlist := by kernel_rfl
theorem rWrite_any (h : IsRef w R D) (i : Int) (A : Option Addr) (c : Nat) (b : List Int) (hbA : ∀ w', Only R.S w w' → ReadB w' A b.length b) :
    Calls Try.prog 22 #[.pointer (some ⟨R.p, 0, none⟩), .int .i64 i, .slice A b.length c] w (RDoes w R (D.write i b)) := by
  have c5 := h.c5
  unfold PD.write
  cases hd : D.down with
  | true =>
    rw [hd] at c5
    rw [if_pos rfl]
    have H := Lib.hid h
    clear h hd hbA
    go_enter Try.func22, Try.ntmps22
    go_wp2
    go_ret
    exact ⟨rfl, H.out, Only.refl _ _⟩
  | false =>
    rw [hd] at c5
    rw [if_neg Bool.false_ne_true]
    have HT := Fact.mk (rthere_any h i)
    by_cases hr : D.there i = false ∨ 64 < b.length
    · rw [if_pos hr]
      have H := Lib.hid h
      rcases Bool.eq_false_or_eq_true (D.there i) with h1 | h1
      · have hn : (64 : Int) < (b.length : Int) := by
          rcases hr with h2 | h2
          · rw [h1] at h2; cases h2
          · omega
        rw [h1] at HT
        clear h hd hr h1 hbA
        generalize b.length = bl at *
        go_enter Try.func22, Try.ntmps22
        go_wp2_with (go_at_call 36; refine HT.out.mono ?_; rintro e w' ⟨rfl, rfl⟩)
        go_ret
        exact ⟨rfl, H.out, Only.refl _ _⟩
      · rw [h1] at HT
        clear h hd hr h1 hbA
        go_enter Try.func22, Try.ntmps22
        go_wp2_with (go_at_call 36; refine HT.out.mono ?_; rintro e w' ⟨rfl, rfl⟩)
        go_ret
        exact ⟨rfl, H.out, Only.refl _ _⟩
    · rw [if_neg hr]
      have ht : D.there i = true := by cases hq : D.there i with
        | true => rfl
        | false => exact absurd (.inl hq) hr
      have hl : b.length ≤ 64 := Nat.le_of_not_lt (fun h => hr (.inr h))
      rw [ht] at HT
      have hi := (PD.there_iff D i).1 ht
      have HF := Fact.mk (rfalls_any h hd)
      cases hc : D.call.down with
      | true =>
        rw [hc] at HF
        rw [if_pos rfl]
        clear h hd hr ht hbA hi
        go_enter Try.func22, Try.ntmps22
        go_wp2_with (first | (go_at_call 36; refine HT.out.mono ?_; rintro e w' ⟨rfl, rfl⟩) | (go_at_call 37; refine HF.out.mono ?_; rintro e w1 ⟨rfl, h1⟩; have H1 := Fact.mk h1; clear h1))
        go_ret
        exact ⟨rfl, H1.out⟩
      | false =>
        rw [hc] at HF
        rw [if_neg Bool.false_ne_true]
        obtain ⟨k, rfl⟩ := Int.eq_ofNat_of_zero_le hi.1
        have hk : k < D.n := by omega
        have hn4 := h.good.most
        rw [Int.toNat_natCast]
        have HB := Fact.mk hbA
        have hg : ∀ g g', (⟨g, 0, none⟩ : Addr) = ⟨g', 0, none⟩ → g = g' := fun g g' e => by injection e
        have hmk := made64
        clear h hd hr ht hbA hi hg
        go_enter Try.func22, Try.ntmps22
        go_wp2_with (first | (go_at_call 36; refine HT.out.mono ?_; rintro e w' ⟨rfl, rfl⟩) | (go_at_call 37; refine HF.out.mono ?_; rintro e w1 ⟨rfl, h1⟩; have H1 := Fact.mk h1; clear h1; have hcp := fun ty => copy_to w1 zc zc_list 5 A c b ty hl (HB.out w1 H1.out.2); have c1 : (w1.alloc (.cells ((pad b).map (Value.int .u8)).toArray 5)).cell? ⟨R.p, 1, none⟩ = some (.slice (some ⟨R.gp, 0, none⟩) D.n D.n) := (H1.out.1.alloc _).c1; have f1 := (H1.out.1.alloc (.cells ((pad b).map (Value.int .u8)).toArray 5)).fp k; obtain ⟨u, cu⟩ := (H1.out.1.alloc (.cells ((pad b).map (Value.int .u8)).toArray 5)).pcell hk))
        go_ret
        have H2 := H1.out.1.alloc (.cells ((pad b).map (Value.int .u8)).toArray 5)
        have hr : Row (w1.alloc (.cells ((pad b).map (Value.int .u8)).toArray 5)) w1.heap.size (pad b) := ⟨pad_length b, heap_alloc_new w1 _⟩
        exact ⟨rfl, H2.setPe (i := k) hk (v := rowV w1.heap.size) (p := some (pad b)) ⟨_, rfl, hr⟩, (H1.out.2.trans (Only.alloc _ _ _)).trans (Only.setCell _ R.S_gp _)⟩
theorem upTo_pe_none {D : PD} {keep : Nat → Bool} {j : Nat} (h : D.pe j = none) : (D.upTo keep j).pe j = none := by rw [PD.upTo_pe]; exact h
set_option maxHeartbeats 1000000 in
set_option maxRecDepth 100000 in
theorem rFlush_any (h : IsRef w R D) :
    Calls Try.prog 23 #[.pointer (some ⟨R.p, 0, none⟩)] w (RDoes w R D.flush) := by
  have c5 := h.c5
  unfold PD.flush
  cases hd : D.down with
  | true =>
    rw [hd] at c5
    rw [if_pos rfl]
    have H := Lib.hid h
    clear h hd
    go_enter Try.func23, Try.ntmps23
    go_wp2
    go_ret
    exact ⟨rfl, H.out, Only.refl _ _⟩
  | false =>
    rw [hd] at c5
    rw [if_neg Bool.false_ne_true]
    have HF := Fact.mk (rfalls_any h hd)
    cases hc : D.call.down with
    | true =>
      rw [hc] at HF
      rw [if_pos rfl]
      clear h hd
      go_enter Try.func23, Try.ntmps23
      go_wp2_with (go_at_call 37; refine HF.out.mono ?_; rintro e w1 ⟨rfl, h1⟩; have H1 := Fact.mk h1; clear h1)
      go_ret
      exact ⟨rfl, H1.out⟩
    | false =>
      rw [hc] at HF
      rw [if_neg Bool.false_ne_true]
      have HG := Fact.mk h.good.call
      have hn4 := h.good.most
      have hN : D.call.n = D.n := rfl
      clear h hd hc
      go_enter Try.func23, Try.ntmps23
      go_wp2_with (go_at_call 37; refine HF.out.mono ?_; rintro e w1 ⟨rfl, h1⟩; have H1 := Fact.mk h1; clear h1)
      clear HF c5
      rw [← hN] at hn4
      clear hN
      generalize hC : D.call = C at *
      have HC := Fact.mk hC
      clear hC
      have hC0 : Fact (IsRef w1 R (C.upTo (fun _ => true) 0)) := ⟨by rw [PD.upTo_zero]; exact H1.out.1⟩
      have hO0 := Fact.mk H1.out.2
      go_loopw [3] (fun v3 wr => ∃ j : Nat, v3 = .int .i64 (j : Int) ∧ j ≤ C.n ∧ Fact (IsRef wr R (C.upTo (fun _ => true) j)) ∧ Fact (Only R.S w wr)) (fun v _ => C.n - (intOf v).toNat)
      case atStart => exact ⟨0, rfl, Nat.zero_le _, hC0, hO0⟩
      case round =>
        obtain ⟨j, rfl, hj, R1, R2⟩ := hrel
        clear H1 hC0 hO0
        have c0 := R1.out.c0
        have c1 := R1.out.c1
        have hn0 : (C.upTo (fun _ => true) j).n = C.n := rfl
        rw [hn0] at c0 c1
        by_cases hlt : j < C.n
        · cases hp : C.pe j with
          | none =>
            have HP := Fact.mk hp
            have cp := R1.out.pe_none (i := j) hlt (upTo_pe_none hp)
            clear hp
            go_wp2_with fail
            exact ⟨⟨j + 1, by go_num, by omega, ⟨by rw [PD.upTo_none _ _ HP.out]; exact R1.out⟩, R2⟩, by simp [intOf]; omega⟩
          | some b =>
            have HP := Fact.mk hp
            obtain ⟨g, cp, hr⟩ := R1.out.pe_some (i := j) hlt (b := b) (by rw [PD.upTo_pe]; exact hp)
            have HR := Fact.mk hr
            clear hp hr
            go_wp2_with fail
            refine region_tail 13 (by kernel_rfl) (by kernel_rfl) ?_
            intro w2 hw2
            have S1 : Fact (IsRef w2 R (C.upTo (fun _ => true) j)) := by subst hw2; exact ⟨R1.out.drew⟩
            have S2 : Fact (Only R.S w w2) := by subst hw2; exact ⟨R2.out.drew⟩
            have HR2 : Fact (Row w2 g b) := by subst hw2; exact ⟨HR.out.kept (Kept8.drew wr)⟩
            have cp2 : w2.cell? ⟨R.gp, j, none⟩ = some (.slice (some ⟨g, 0, none⟩) 64 64) := by subst hw2; exact cp
            clear hw2 R1 R2 HR c0 c1 cp
            have c0 := S1.out.c0
            have c1 := S1.out.c1
            rw [hn0] at c0 c1
            obtain ⟨gq, cst, _⟩ := S1.out.st (i := j) hlt
            have fs := S1.out.fs j
            have B1 := Fact.mk (S1.out.setSt (i := j) hlt HR2.out)
            have B2 := Fact.mk (S2.out.trans (Only.setCell w2 R.S_gs (.slice (some ⟨g, 0, none⟩) 64 64) (a := ⟨R.gs, j, none⟩)))
            have c1b : (w2.setCell ⟨R.gs, j, none⟩ (.slice (some ⟨g, 0, none⟩) 64 64)).cell? ⟨R.p, 1, none⟩ = some (.slice (some ⟨R.gp, 0, none⟩) C.n C.n) := B1.out.c1
            obtain ⟨u, cu⟩ := B1.out.pcell (i := j) hlt
            have fp := B1.out.fp j
            simp only [List.take_succ_cons, List.take_zero, List.drop_succ_cons, List.drop_zero]
            iterate 13 still_step
            refine wpStill_nil ?_
            go_wp2_with fail
            refine ⟨⟨j + 1, by go_num, by omega, ⟨?_⟩, ⟨B2.out.trans (Only.setCell _ R.S_gp _)⟩⟩, by simp [intOf]; omega⟩
            rw [PD.upTo_keep _ _ HP.out rfl]
            exact B1.out.setPe (i := j) hlt (v := .slice none 0 0) (p := none) rfl
        · have he : j = C.n := by omega
          subst he
          have hlt2 : ¬ ((C.n : Int) < (C.n : Int)) := by omega
          go_wp2_with fail
          go_ret
          refine ⟨rfl, ?_, R2.out⟩
          rw [HC.out, ← PD.upTo_end _ HG.out]
          exact R1.out
end
end Go.Proofs.Ytldefibkaoboeaa.Dk
