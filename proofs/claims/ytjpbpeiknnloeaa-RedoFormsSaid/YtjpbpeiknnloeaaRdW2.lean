/-
What '(*Redo).write' does: sectors are written one behind the other, and all stand.
-/
import Derived.Test.YtjpbpeiknnloeaaRdW1
namespace Go.Proofs.Ytjpbpeiknnloeaa.Dk
open Go.RowKit Go.Maps Go.Proofs.YtjpbpeiknnloeaaW.PrintWords Go.Proofs.YtjpbpeiknnloeaaW.PrintLast Go.Proofs.YtjpbpeiknnloeaaW.PrintMore
set_option linter.unusedVariables false
set_option linter.unusedSimpArgs false

theorem PD.writes_cons (D : PD) (c : Ch) (r : List Ch) : D.writes (c :: r) = if (D.write c.1 c.2).1 = 0 then (D.write c.1 c.2).2.writes r else D.write c.1 c.2 := rfl
section
variable {w : World} {L : DL} {D : PD} {q : Nat} {br : Bool} {S : Nat → Prop}
set_option maxHeartbeats 1000000 in
set_option maxRecDepth 100000 in
/-- '(*Redo).write'. -/
theorem write_any (hd : IsDisk w L D) (hr : IsRedo w q L br) (A : Option Addr) (c : Nat) (l : List Ch) (hl : Chs S w A l) (hS : ∀ k, L.S k → S k) :
    Calls Try.prog 27 #[.pointer (some ⟨q, 0, none⟩), .slice A l.length c] w (DoesTo w L (D.writes l)) := by
  have HR := Fact.mk hr
  have HC := Fact.mk hl
  have hle := hl.le
  have HS := Fact.mk hS
  have HQ := Fact.mk (hr.apart hd)
  have I0 : Fact (∃ D', IsDisk w L D' ∧ D'.writes l = D.writes l) := ⟨D, hd, rfl⟩
  clear hd hr hl hS
  go_enter Try.func27, Try.ntmps27
  go_wp2_with fail
  go_loopw [10] (fun v10 wr => ∃ j : Nat, v10 = .int .i64 (j : Int) ∧ j ≤ l.length ∧ Fact (∃ D', IsDisk wr L D' ∧ D'.writes (l.drop j) = D.writes l) ∧ Fact (Only L.S w wr)) (fun v _ => l.length - (intOf v).toNat)
  case atStart => exact ⟨0, rfl, Nat.zero_le _, I0, ⟨Only.refl _ _⟩⟩
  case round =>
    obtain ⟨j, rfl, hj, R1, R2⟩ := hrel
    clear I0
    obtain ⟨D', hD, hE⟩ := R1.out
    have HD := Fact.mk hD
    have HE := Fact.mk hE
    clear R1 hD hE
    by_cases hlt : j < l.length
    · have hlt2 : (j : Int) < (l.length : Int) := by omega
      have hx : l[j]? = some l[j] := List.getElem?_eq_getElem hlt
      have HX : Fact (l.drop j = l[j] :: l.drop (j + 1)) := ⟨List.drop_eq_getElem_cons hlt⟩
      obtain ⟨ad, As, cs, hA, hs, hc⟩ := HC.out.at_ hx
      subst hA
      obtain ⟨c0, c1⟩ := hc wr (R2.out.mono HS.out)
      have HSee := Fact.mk (hs.step (R2.out.mono HS.out))
      clear hs hc hx
      generalize l[j] = x at *
      go_wp2_with fail
      have hnew := heap_alloc_new wr (.cells #[.int .i64 x.1, .slice As x.2.length cs] 47)
      refine region_tail 8 (by kernel_rfl) (by kernel_rfl) ?_
      intro W hW
      have OW : Fact (Only L.S w W) := by subst hW; exact ⟨(R2.out.trans (Only.alloc _ _ _)).drew⟩
      have HDW : Fact (IsDisk W L D') := by subst hW; exact ⟨(HD.out.alloc _).drew⟩
      have HSW : Fact (Sees S W ⟨As, x.2.length, cs⟩ x.2) := by subst hW; exact ⟨HSee.out.step (Only.alloc S wr _).drew⟩
      have cq := (HR.out.only OW.out HQ.out).c0
      have d0 : W.cell? ⟨wr.heap.size, 0, none⟩ = some (.int .i64 x.1) := by subst hW; exact (cell_of_row _ _ 0 _ _ _ hnew).trans rfl
      have d1 : W.cell? ⟨wr.heap.size, 1, none⟩ = some (.slice As x.2.length cs) := by subst hW; exact (cell_of_row _ _ 1 _ _ _ hnew).trans rfl
      clear hW hnew HSee HD R2 c0 c1
      generalize wr.heap.size = g at *
      clear wr
      simp only [List.take_succ_cons, List.take_zero, List.drop_succ_cons, List.drop_zero]
      iterate 8 still_step
      refine wpStill_nil ?_
      go_wp2_with fail
      refine (Write_any HDW.out x.1 As cs x.2 (HSW.out.reads _ (Only.refl _ _)) (fun w' ho => HSW.out.reads w' (ho.mono HS.out))).mono ?_
      rintro e w2 ⟨rfl, h2, o2⟩
      have H2 := Fact.mk h2
      have O2 := Fact.mk (OW.out.trans o2)
      clear h2 o2 OW HDW HSW d0 d1 cq
      have HE2 := HE.out
      rw [HX.out, PD.writes_cons] at HE2
      by_cases hr : (D'.write x.1 x.2).1 = 0
      · rw [if_pos hr] at HE2
        have HE2 := Fact.mk HE2
        generalize D'.write x.1 x.2 = r at *
        obtain ⟨r1, r2⟩ := r
        obtain rfl : r1 = 0 := hr
        clear HE HX
        go_wp2_with fail
        exact ⟨⟨j + 1, by go_num, by omega, ⟨r2, H2.out, HE2.out⟩, O2⟩, by simp [intOf]; omega⟩
      · rw [if_neg hr] at HE2
        have HE2 := Fact.mk HE2
        generalize D'.write x.1 x.2 = r at *
        obtain ⟨r1, r2⟩ := r
        have hr : ¬ r1 = 0 := hr
        clear HE HX
        go_wp2_with fail
        go_ret
        rw [← HE2.out]
        exact ⟨rfl, H2.out, O2.out⟩
    · have he : j = l.length := by omega
      subst he
      have hlt2 : ¬ ((l.length : Int) < (l.length : Int)) := by omega
      have cq := (HR.out.only R2.out HQ.out).c0
      have HE2 := HE.out
      rw [List.drop_eq_nil_of_le (Nat.le_refl _)] at HE2
      have HE2 : Fact (D'.flush = D.writes l) := ⟨HE2⟩
      clear HE
      go_wp2_with fail
      refine (Flush_any HD.out).mono ?_
      rintro e w2 ⟨rfl, h2, o2⟩
      have H2 := Fact.mk h2
      have O2 := Fact.mk (R2.out.trans o2)
      clear h2 o2
      go_wp2_with fail
      go_ret
      rw [← HE2.out]
      exact ⟨rfl, H2.out, O2.out⟩
end
end Go.Proofs.Ytjpbpeiknnloeaa.Dk
