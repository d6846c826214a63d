/-
What 'redo.Open' does, where there are sectors enough.
-/
import Derived.Test.YtjpbpeiknnloeaaRdW10
namespace Go.Proofs.Ytjpbpeiknnloeaa.Dk
open Go.RowKit Go.Maps Go.Proofs.YtjpbpeiknnloeaaW.PrintWords Go.Proofs.YtjpbpeiknnloeaaW.PrintLast Go.Proofs.YtjpbpeiknnloeaaW.PrintMore
set_option linter.unusedVariables false
set_option linter.unusedSimpArgs false

/-- What 'Open' comes to. -/
def OpenTo (w : World) (L : DL) (r : Int × PD) (e : Ending) (w' : World) : Prop :=
  ((r.1 = 0 ∧ ∃ q, e = .returned (.tuple #[.pointer (some ⟨q, 0, none⟩), .int .i64 0]) ∧ IsRedo w' q L false ∧ w.heap.size ≤ q) ∨ (r.1 ≠ 0 ∧ e = .returned (.tuple #[.pointer none, .int .i64 r.1]))) ∧ IsDisk w' L r.2 ∧ Only L.S w w'
theorem PD.found_right (D : PD) : D.found.1 = [] ∨ rightOf ((D.n : Int) - 100) D.found.1 = true := by
  unfold PD.found
  dsimp only
  repeat' split
  all_goals first | exact .inl rfl | skip
  right
  rename_i h _
  simpa using h
theorem PD.open_eq (D : PD) : D.open_ = if D.found.2 ≠ 0 then (D.found.2, D) else if D.found.1 = [] then (0, D) else D.finish D.found.1 := rfl
section
variable {w : World} {L : DL} {D : PD}
set_option maxHeartbeats 4000000 in
set_option maxRecDepth 1000000 in
theorem Open_any (hd : IsDisk w L D) (h100 : 100 < D.n) (hlow : D.Low) :
    Calls Try.prog 11 #[.pointer (some ⟨L.p, 0, none⟩)] w (OpenTo w L D.open_) := by
  have h100i : ¬ ((D.n : Int) ≤ 100) := by omega
  have hn := hd.good.most
  have HD := Fact.mk hd
  have HL := Fact.mk (Len_any hd)
  have HLow := Fact.mk hlow
  have HF := Fact.mk D.open_eq
  have HFR := Fact.mk D.found_right
  have HLt := Fact.mk hd.lt
  clear hd hlow h100
  go_enter Try.func11, Try.ntmps11
  go_wp2_with fail
  refine HL.out.mono ?_
  rintro e w0 ⟨rfl, rfl⟩
  clear HL
  go_wp2_with fail
  have hnew := heap_alloc_new w (.cells #[.pointer (some ⟨L.p, 0, none⟩), .bool false] 59)
  have HR1 : Fact (IsRedo (w.alloc (.cells #[.pointer (some ⟨L.p, 0, none⟩), .bool false] 59)) w.heap.size L false) := ⟨hnew⟩
  have HD1 := Fact.mk (HD.out.alloc (.cells #[.pointer (some ⟨L.p, 0, none⟩), .bool false] 59))
  have B1 : Fact (Below w.heap.size w (w.alloc (.cells #[.pointer (some ⟨L.p, 0, none⟩), .bool false] 59))) := ⟨(Below.refl _ _).alloc (Nat.le_refl _) _⟩
  have hq : ¬ L.S w.heap.size := fun h => Nat.lt_irrefl _ (HLt.out _ h)
  have HQ := Fact.mk hq
  clear hnew hq
  generalize (w.alloc (.cells #[.pointer (some ⟨L.p, 0, none⟩), .bool false] 59)) = w1 at *
  refine (found_any HD1.out HR1.out HLow.out).mono ?_
  rintro e w2 ⟨A, c, rfl, hch, b2⟩
  have HD2 := Fact.mk (HD1.out.below b2)
  have HR2 : Fact (IsRedo w2 w.heap.size L false) := ⟨HR1.out.only (Only.of_below b2 L.S) HQ.out⟩
  have HC2 := Fact.mk (hch L.S (fun k hk => HD1.out.lt k hk))
  have B2 := Fact.mk (next_new B1.out b2)
  clear hch b2 HR1 HD1 B1
  clear w1
  generalize D.found = r at *
  obtain ⟨l, e0⟩ := r
  dsimp only at HC2 HFR HF ⊢
  by_cases he : e0 = 0
  · subst he
    by_cases hl : l = []
    · subst hl
      have HF2 : Fact (D.open_ = (0, D)) := ⟨by rw [HF.out, if_neg (by simp), if_pos rfl]⟩
      clear HF HC2 HFR
      simp only [List.length_nil]
      go_wp2_with fail
      go_ret2
      rw [HF2.out]
      exact ⟨.inl ⟨rfl, _, rfl, HR2.out, Nat.le_refl _⟩, HD2.out, Only.of_below B2.out _⟩
    · have HF2 : Fact (D.open_ = D.finish l) := ⟨by rw [HF.out, if_neg (by simp), if_neg hl]⟩
      have HP := Fact.mk (right_props (HFR.out.resolve_left hl))
      have hpos : 0 < l.length := HP.out.2.2.1
      have hle : l.length ≤ 96 := HP.out.2.2.2
      clear HF HFR hl
      go_wp2_with fail
      refine (finish_any (S := L.S) HD2.out HR2.out A c l HC2.out (fun k h => h) (fun k hk => HD2.out.lt k hk) (fun x hx => ⟨(HP.out.1 x hx).1, by have := (HP.out.1 x hx).2.1; omega⟩) hle).mono ?_
      rintro e w3 ⟨rfl, h3, o3⟩
      have H3 := Fact.mk h3
      have HR3 : Fact (IsRedo w3 w.heap.size L false) := ⟨HR2.out.only o3 HQ.out⟩
      have O3 : Fact (Only L.S w w3) := ⟨(Only.of_below B2.out L.S).trans o3⟩
      clear h3 o3
      generalize D.finish l = r at *
      obtain ⟨e1, D1⟩ := r
      dsimp only at H3 ⊢
      by_cases he : e1 = 0
      · subst he
        go_wp2_with fail
        go_ret2
        rw [HF2.out]
        exact ⟨.inl ⟨rfl, _, rfl, HR3.out, Nat.le_refl _⟩, H3.out, O3.out⟩
      · go_wp2_with fail
        go_ret2
        rw [HF2.out]
        exact ⟨.inr ⟨he, rfl⟩, H3.out, O3.out⟩
  · have HF2 : Fact (D.open_ = (e0, D)) := ⟨by rw [HF.out, if_pos he]⟩
    clear HF
    go_wp2_with fail
    go_ret2
    rw [HF2.out]
    exact ⟨.inr ⟨he, rfl⟩, HD2.out, Only.of_below B2.out _⟩
end
end Go.Proofs.Ytjpbpeiknnloeaa.Dk
