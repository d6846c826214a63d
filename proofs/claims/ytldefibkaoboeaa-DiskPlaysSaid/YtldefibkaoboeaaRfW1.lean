/-
What the reference's small functions do: is there a sector; does the power go; what is read; armed.
-/
import Derived.Test.YtldefibkaoboeaaRf
import Derived.Test.YtldefibkaoboeaaRfModel
namespace Go.Proofs.Ytldefibkaoboeaa.Dk
open Go.RowKit Go.Maps Go.Proofs.YtldefibkaoboeaaW.PrintWords Go.Proofs.YtldefibkaoboeaaW.PrintLast Go.Proofs.YtldefibkaoboeaaW.PrintMore
set_option linter.unusedVariables false
set_option linter.unusedSimpArgs false

section
variable {w : World} {R : RL} {D : PD}
theorem rthere_any (h : IsRef w R D) (i : Int) :
    Calls Try.prog 36 #[.pointer (some ⟨R.p, 0, none⟩), .int .i64 i] w fun e w' => e = .returned (.bool (D.there i)) ∧ w = w' := by
  have c0 := h.c0
  have H := Lib.hid h
  clear h
  go_enter Try.func36, Try.ntmps36
  go_wp2
  all_goals
    go_ret
    refine ⟨ret_bool ?_, rfl⟩
    simp only [PD.there]
    simp
    try omega
/-- What a call on the reference's disk leaves. -/
def RNow (w : World) (R : RL) (D : PD) (w' : World) : Prop := IsRef w' R D ∧ Only R.S w w'
theorem IsRef.fallen (h : IsRef w R D) (h0 : D.left = 0) : IsRef ((w.setCell ⟨R.p, 4, none⟩ (.bool false)).setCell ⟨R.p, 5, none⟩ (.bool true)) R D.call := by
  have h1 := h.setSelf 4 (.bool false) (-1) D.down (by omega) (by omega) (fun l hl => ⟨l, by rw [h0]; rfl, by omega⟩)
  have h2 := h1.setSelf 5 (.bool true) (-1) true (by omega) (by omega) (fun l hl => ⟨l, rfl, hl⟩)
  have e : D.call = { D with left := -1, down := true } := by
    unfold PD.call
    simp [h0]
  rw [e]; exact h2
theorem IsRef.counted (h : IsRef w R D) (h0 : 0 < D.left) (hd : D.down = false) : IsRef (w.setCell ⟨R.p, 3, none⟩ (.int .i64 (D.left - 1))) R D.call := by
  have hh := h.good.hi
  have h1 := h.setSelf 3 (.int .i64 (D.left - 1)) (D.left - 1) D.down (by omega) (by omega) (fun l hl => ⟨D.left - 1, by rw [show decide (0 ≤ D.left - 1) = decide (0 ≤ D.left) from by simp; omega]; rfl, fun _ => rfl⟩)
  have e : D.call = { D with left := D.left - 1, down := D.down } := by
    unfold PD.call
    rw [hd, show max (D.left - 1) (-1) = D.left - 1 from by omega, show decide (D.left = 0) = false from by simp; omega]
  rw [e]; exact h1
theorem PD.call_not {D : PD} (h : D.left = -1) (hd : D.down = false) : D.call = D := PD.Up.call ⟨h, hd⟩
theorem rfalls_any (h : IsRef w R D) (hd : D.down = false) :
    Calls Try.prog 37 #[.pointer (some ⟨R.p, 0, none⟩)] w fun e w' => e = .returned (.bool D.call.down) ∧ RNow w R D.call w' := by
  have hlo := h.good.lo
  have hhi := h.good.hi
  obtain ⟨l, c3, hl⟩ := h.c3
  have c4 := h.c4
  have f3 := h.f 3
  have f4 := h.f 4
  have f5 := h.f 5
  have c5 := h.c5
  rcases Int.lt_trichotomy D.left 0 with h0 | h0 | h0
  · have e1 := PD.call_not (show D.left = -1 by omega) hd
    rw [e1, hd]
    rw [show decide (0 ≤ D.left) = false from by simp; omega] at c4
    have H := Lib.hid h
    clear h hd e1 hl h0 hlo hhi
    go_enter Try.func37, Try.ntmps37
    go_wp2
    go_ret
    exact ⟨rfl, H.out, Only.refl _ _⟩
  · have hl0 := hl (by omega)
    rw [h0] at hl0
    subst hl0
    have e1 : D.call.down = true := by simp [PD.call, h0]
    rw [e1]
    rw [show decide (0 ≤ D.left) = true from by simp; omega] at c4
    have H := Lib.hid (h.fallen h0)
    clear h hd e1 hl h0 hlo hhi
    go_enter Try.func37, Try.ntmps37
    go_wp2
    go_ret
    exact ⟨rfl, H.out, (Only.setCell w R.S_p _).trans (Only.setCell _ R.S_p _)⟩
  · have hl0 := hl (by omega)
    subst hl0
    have e1 : D.call.down = false := by simp [PD.call]; omega
    rw [e1]
    rw [show decide (0 ≤ D.left) = true from by simp; omega] at c4
    have H := Lib.hid (h.counted h0 hd)
    have h1 : ¬ D.left = 0 := by omega
    clear h hd e1 hl
    generalize D.left = dl at *
    go_enter Try.func37, Try.ntmps37
    go_wp2
    go_ret
    exact ⟨rfl, H.out, Only.setCell w R.S_p _⟩
theorem IsRef.armed (h : IsRef w R D) (k : Int) (hk : k < 9223372036854775808) : IsRef ((w.setCell ⟨R.p, 4, none⟩ (.bool (decide (0 ≤ k)))).setCell ⟨R.p, 3, none⟩ (.int .i64 k)) R (D.arm k) := by
  obtain ⟨n1, n2, n3, _, _⟩ := h.nes
  have h8 := (h.put_kept R.S_p 4 (.bool (decide (0 ≤ k))))
  have hr : ∀ g b, Row w g b → Row ((w.setCell ⟨R.p, 4, none⟩ (.bool (decide (0 ≤ k)))).setCell ⟨R.p, 3, none⟩ (.int .i64 k)) g b := fun g b hr => by
    have hn : g ≠ R.p := fun e => h.not8 hr.at_ (e ▸ R.S_p)
    exact ⟨hr.len, (heap_setCell_other _ _ _ _ hn).trans ((heap_setCell_other _ _ _ _ hn).trans hr.at_)⟩
  obtain ⟨l, h1, h2⟩ := h.self
  obtain ⟨cs, h3, h4⟩ := h.stands
  obtain ⟨cp, h5, h6⟩ := h.pend
  obtain ⟨cb, h7, h9⟩ := h.bads
  have hs : ∀ q, q ≠ R.p → ((w.setCell ⟨R.p, 4, none⟩ (.bool (decide (0 ≤ k)))).setCell ⟨R.p, 3, none⟩ (.int .i64 k)).heap[q]? = w.heap[q]? := fun q hq => (heap_setCell_other _ _ _ _ hq).trans (heap_setCell_other _ _ _ _ hq)
  have e1 : decide (0 ≤ max k (-1)) = decide (0 ≤ k) := by simp; omega
  refine ⟨h.good.arm hk, ⟨k, ?_, fun h => by have h : 0 ≤ max k (-1) := h; show k = max k (-1); omega⟩, ⟨cs, (hs _ (Ne.symm n1)).trans h3, fun i hi => ?_⟩, ⟨cp, (hs _ (Ne.symm n2)).trans h5, fun i hi => ?_⟩, ⟨cb, (hs _ (Ne.symm n3)).trans h7, h9⟩, h.ne⟩
  · rw [heap_setCell_same _ R.p 3 _ _ _ (heap_setCell_same w R.p 4 _ _ _ h1)]
    show _ = some (Obj.cells (refCells R D.n k (decide (0 ≤ max k (-1))) D.down) _ _)
    rw [e1]; rfl
  · obtain ⟨g, e, hq⟩ := h4 i hi; exact ⟨g, e, hr _ _ hq⟩
  · obtain ⟨v, e, hq⟩ := h6 i hi
    refine ⟨v, e, ?_⟩
    show PCell _ v (D.pe i)
    cases hp : D.pe i with
    | none => rw [hp] at hq; exact hq
    | some b => rw [hp] at hq; obtain ⟨g, e1, e2⟩ := hq; exact ⟨g, e1, hr _ _ e2⟩
theorem rArm_any (h : IsRef w R D) (k : Int) (hk : k < 9223372036854775808) :
    Calls Try.prog 24 #[.pointer (some ⟨R.p, 0, none⟩), .int .i64 k] w fun e w' => e = .returned (.tuple #[]) ∧ RNow w R (D.arm k) w' := by
  obtain ⟨l, c3, hl⟩ := h.c3
  have c4 := h.c4
  have f3 := h.f 3
  have f4 := h.f 4
  have H := Lib.hid (h.armed k hk)
  clear h hk hl
  go_enter Try.func24, Try.ntmps24
  go_wp2
  go_end0
  exact ⟨rfl, H.out, (Only.setCell w R.S_p _).trans (Only.setCell _ R.S_p _)⟩
/-- What is read: a row, and what it holds. -/
def RReads (w : World) (r : List Int × Int) (e : Ending) (w' : World) : Prop := ∃ A c, e = .returned (.tuple #[.slice A r.1.length c, .int .i64 r.2]) ∧ ReadB w A r.1.length r.1 ∧ w = w'
theorem reads_nil (w : World) : ReadB w none 0 [] := ⟨rfl, by decide, fun h => by simp at h⟩
theorem rRead_any (h : IsRef w R D) (i : Int) :
    Calls Try.prog 21 #[.pointer (some ⟨R.p, 0, none⟩), .int .i64 i] w (RReads w (D.read i)) := by
  have c5 := h.c5
  unfold PD.read
  cases hd : D.down with
  | true =>
    rw [hd] at c5
    rw [if_pos rfl]
    clear h hd
    go_enter Try.func21, Try.ntmps21
    go_wp2
    go_ret2
    exact ⟨none, 0, rfl, reads_nil _, rfl⟩
  | false =>
    rw [hd] at c5
    rw [if_neg Bool.false_ne_true]
    have HT := Fact.mk (rthere_any h i)
    cases ht : D.there i with
    | false =>
      rw [ht] at HT
      rw [if_pos rfl]
      clear h hd ht
      go_enter Try.func21, Try.ntmps21
      go_wp2_with (go_at_call 36; refine HT.out.mono ?_; rintro e w' ⟨rfl, rfl⟩)
      go_ret2
      exact ⟨none, 0, rfl, reads_nil _, rfl⟩
    | true =>
      rw [ht] at HT
      rw [if_neg (by simp)]
      have hi := (PD.there_iff D i).1 ht
      have hn4 := h.good.most
      obtain ⟨k, rfl⟩ := Int.eq_ofNat_of_zero_le hi.1
      have hk : k < D.n := by omega
      rw [Int.toNat_natCast]
      have c1 := h.c1
      have c2 := h.c2
      have c0 := h.c0
      have cb := h.bad hk
      cases hb : D.bad k with
      | true =>
        rw [hb] at cb
        rw [if_pos rfl]
        clear h hd ht hb hi
        go_enter Try.func21, Try.ntmps21
        go_wp2_with (go_at_call 36; refine HT.out.mono ?_; rintro e w' ⟨rfl, rfl⟩)
        go_ret2
        exact ⟨none, 0, rfl, reads_nil _, rfl⟩
      | false =>
        rw [hb] at cb
        rw [if_neg Bool.false_ne_true]
        unfold PD.now
        cases hp : D.pe k with
        | none =>
          have cp := h.pe_none hk hp
          obtain ⟨g, cst, hr⟩ := h.st hk
          have HR := Fact.mk hr
          rw [Option.getD_none]
          clear h hd ht hb hi hp hr
          go_enter Try.func21, Try.ntmps21
          go_wp2_with (go_at_call 36; refine HT.out.mono ?_; rintro e w' ⟨rfl, rfl⟩)
          go_ret2
          exact ⟨some ⟨g, 0, none⟩, 64, by rw [HR.out.len]; rfl, by rw [HR.out.len]; exact HR.out.reads, rfl⟩
        | some b =>
          obtain ⟨g, cst, hr⟩ := h.pe_some hk hp
          have HR := Fact.mk hr
          rw [Option.getD_some]
          clear h hd ht hb hi hp hr
          go_enter Try.func21, Try.ntmps21
          go_wp2_with (go_at_call 36; refine HT.out.mono ?_; rintro e w' ⟨rfl, rfl⟩)
          go_ret2
          exact ⟨some ⟨g, 0, none⟩, 64, by rw [HR.out.len]; rfl, by rw [HR.out.len]; exact HR.out.reads, rfl⟩
end
end Go.Proofs.Ytldefibkaoboeaa.Dk
