/-
What the reference's Crash does.
-/
import Derived.Test.YtldefibkaoboeaaRfW2
namespace Go.Proofs.Ytldefibkaoboeaa.Dk
open Go.RowKit Go.Maps Go.Proofs.YtldefibkaoboeaaW.PrintWords Go.Proofs.YtldefibkaoboeaaW.PrintLast Go.Proofs.YtldefibkaoboeaaW.PrintMore
set_option linter.unusedVariables false
set_option linter.unusedSimpArgs false

section
variable {w : World} {R : RL} {D : PD}
theorem IsRef.crashed (h : IsRef w R D) : IsRef ((w.setCell ⟨R.p, 4, none⟩ (.bool false)).setCell ⟨R.p, 5, none⟩ (.bool false)) R { D with left := -1, down := false } := by
  have h1 := h.setSelf 4 (.bool false) (-1) D.down (by omega) (by omega) (fun l hl => ⟨l, rfl, by omega⟩)
  exact h1.setSelf 5 (.bool false) (-1) false (by omega) (by omega) (fun l hl => ⟨l, rfl, hl⟩)
set_option maxHeartbeats 1000000 in
set_option maxRecDepth 100000 in
theorem rCrash_any (h : IsRef w R D) (A : Option Addr) (c : Nat) (keep : List Bool) (hr : ∀ W, Only R.S w W → ReadBool W A keep.length keep) :
    Calls Try.prog 25 #[.pointer (some ⟨R.p, 0, none⟩), .slice A keep.length c] w fun e w' => e = .returned (.tuple #[]) ∧ RNow w R (D.crash keep) w' := by
  have HG := Fact.mk h.good
  have HKR := Fact.mk hr
  have hn4 := h.good.most
  have hC0 : Fact (IsRef w R (D.upTo (fun k => keep.getD k false) 0)) := ⟨by rw [PD.upTo_zero]; exact h⟩
  have hO0 := Fact.mk (Only.refl R.S w)
  clear h hr
  go_enter Try.func25, Try.ntmps25
  go_wp2_with fail
  go_loopw [4, 5] (fun v4 v5 wr => ∃ j : Nat, v5 = .int .i64 (j : Int) ∧ v4 = .int .i64 (D.rank j : Int) ∧ j ≤ D.n ∧ Fact (IsRef wr R (D.upTo (fun k => keep.getD k false) j)) ∧ Fact (Only R.S w wr)) (fun _ v _ => D.n - (intOf v).toNat)
  case atStart => exact ⟨0, rfl, rfl, Nat.zero_le _, hC0, hO0⟩
  case round =>
    obtain ⟨j, rfl, rfl, hj, R1, R2⟩ := hrel
    clear hC0 hO0
    have c0 := R1.out.c0
    have c1 := R1.out.c1
    have hn0 : (D.upTo (fun k => keep.getD k false) j).n = D.n := rfl
    rw [hn0] at c0 c1
    by_cases hlt : j < D.n
    · have hrk := D.rank_le j
      cases hp : D.pe j with
      | none =>
        have HP := Fact.mk hp
        have HRK := Fact.mk (D.rank_no hp)
        have cp := R1.out.pe_none (i := j) hlt (upTo_pe_none hp)
        clear hp
        go_wp2_with fail
        exact ⟨⟨j + 1, by go_num, by rw [HRK.out], by omega, ⟨by rw [PD.upTo_none _ _ HP.out]; exact R1.out⟩, R2⟩, by simp [intOf]; omega⟩
      | some b =>
        have HP := Fact.mk hp
        have HRK := Fact.mk (D.rank_yes hp)
        obtain ⟨g, cp, hr⟩ := R1.out.pe_some (i := j) hlt (b := b) (by rw [PD.upTo_pe]; exact hp)
        have HR := Fact.mk hr
        have HRD := Fact.mk (HKR.out wr R2.out)
        clear hp hr
        have HD := Fact.mk (PD.upTo_drop D (fun k => keep.getD k false) HP.out)
        have HU := Fact.mk (PD.upTo_keep D (fun k => keep.getD k false) HP.out)
        have fp := R1.out.fp j
        generalize D.rank j = rk at *
        by_cases hk : rk < keep.length
        · have hk2 : (rk : Int) < (keep.length : Int) := by omega
          obtain ⟨ad, rfl, cb⟩ := bool_cell HRD.out hk
          cases hkj : keep.getD rk false with
          | true =>
            rw [hkj] at cb
            have HKJ := Fact.mk hkj
            clear hkj HD
            generalize keep.length = kl at *
            go_wp2_with fail
            refine region_tail 13 (by kernel_rfl) (by kernel_rfl) ?_
            intro w2 hw2
            have S1 : Fact (IsRef w2 R (D.upTo (fun k => keep.getD k false) j)) := by subst hw2; exact ⟨R1.out.drew⟩
            have S2 : Fact (Only R.S w w2) := by subst hw2; exact ⟨R2.out.drew⟩
            have HR2 : Fact (Row w2 g b) := by subst hw2; exact ⟨HR.out.kept (Kept8.drew wr)⟩
            have cp2 : w2.cell? ⟨R.gp, j, none⟩ = some (.slice (some ⟨g, 0, none⟩) 64 64) := by subst hw2; exact cp
            clear hw2 R1 R2 HR c0 c1 cp cb fp
            have c0 := S1.out.c0
            have c1 := S1.out.c1
            rw [hn0] at c0 c1
            obtain ⟨gq, cst, _⟩ := S1.out.st (i := j) hlt
            have fs := S1.out.fs j
            have B1 := Fact.mk (S1.out.setSt (i := j) hlt HR2.out)
            have B2 := Fact.mk (S2.out.trans (Only.setCell w2 R.S_gs (.slice (some ⟨g, 0, none⟩) 64 64) (a := ⟨R.gs, j, none⟩)))
            have c1b : (w2.setCell ⟨R.gs, j, none⟩ (.slice (some ⟨g, 0, none⟩) 64 64)).cell? ⟨R.p, 1, none⟩ = some (.slice (some ⟨R.gp, 0, none⟩) D.n D.n) := B1.out.c1
            obtain ⟨u, cu⟩ := B1.out.pcell (i := j) hlt
            have fp := B1.out.fp j
            simp only [List.take_succ_cons, List.take_zero, List.drop_succ_cons, List.drop_zero]
            iterate 13 still_step
            refine wpStill_nil ?_
            go_wp2_with fail
            refine ⟨⟨j + 1, by go_num, by rw [HRK.out]; go_num, by omega, ⟨?_⟩, ⟨B2.out.trans (Only.setCell _ R.S_gp _)⟩⟩, by simp [intOf]; omega⟩
            rw [HU.out HKJ.out]
            exact B1.out.setPe (i := j) hlt (v := .slice none 0 0) (p := none) rfl
          | false =>
            rw [hkj] at cb
            have HKJ := Fact.mk hkj
            clear hkj HU
            generalize keep.length = kl at *
            go_wp2_with fail
            refine ⟨⟨j + 1, by go_num, by rw [HRK.out]; go_num, by omega, ⟨?_⟩, ⟨R2.out.trans (Only.setCell _ R.S_gp _)⟩⟩, by simp [intOf]; omega⟩
            rw [HD.out HKJ.out]
            exact R1.out.setPe (i := j) hlt (v := .slice none 0 0) (p := none) rfl
        · have hk2 : decide ((rk : Int) < (keep.length : Int)) = false := by simp; omega
          have HKJ : Fact (keep.getD rk false = false) := ⟨by rw [List.getD_eq_getElem?_getD, List.getElem?_eq_none (by omega)]; rfl⟩
          clear HU
          generalize keep.length = kl at *
          go_wp2_with fail
          refine ⟨⟨j + 1, by go_num, by rw [HRK.out]; go_num, by omega, ⟨?_⟩, ⟨R2.out.trans (Only.setCell _ R.S_gp _)⟩⟩, by simp [intOf]; omega⟩
          rw [HD.out HKJ.out]
          exact R1.out.setPe (i := j) hlt (v := .slice none 0 0) (p := none) rfl
    · have he : j = D.n := by omega
      subst he
      have hlt2 : ¬ ((D.n : Int) < (D.n : Int)) := by omega
      have c4 := R1.out.c4
      have c5 := R1.out.c5
      have f4 := R1.out.f 4
      have f5 := R1.out.f 5
      have H1 := Fact.mk R1.out.crashed
      go_wp2_with fail
      go_end0
      refine ⟨rfl, ?_, (R2.out.trans (Only.setCell _ R.S_p _)).trans (Only.setCell _ R.S_p _)⟩
      unfold PD.crash
      rw [← PD.upTo_end _ HG.out]
      exact H1.out
end
end Go.Proofs.Ytldefibkaoboeaa.Dk
