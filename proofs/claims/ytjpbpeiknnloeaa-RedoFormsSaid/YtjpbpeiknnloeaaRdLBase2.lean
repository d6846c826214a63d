/-
More words and steps of the laws on a journal.
-/
import Derived.Test.YtjpbpeiknnloeaaRdLBase
namespace Go.Proofs.Ytjpbpeiknnloeaa.Dk
open Go.RowKit Go.Maps Go.Proofs.YtjpbpeiknnloeaaW.PrintWords Go.Proofs.YtjpbpeiknnloeaaW.PrintLast Go.Proofs.YtjpbpeiknnloeaaW.PrintMore
set_option linter.unusedVariables false
set_option linter.unusedSimpArgs false

theorem ikeys_none {D : PD} (h : D.Settled) : D.ikeys = [] := by
  have e : D.keys = [] := List.filter_eq_nil_iff.2 fun i _ => by rw [h i]; decide
  unfold PD.ikeys
  rw [e]; rfl
/-- A job on a disk at rest whose power is there: it is done, or refused; the disk rests. -/
theorem do_rests {D : PD} {f : Sect} (h : Rests 120 f D) (hu : D.Up) (a : List Ch) : ∃ e D1 f1, D.do_ false a = (e, D1, false) ∧ Rests 120 f1 D1 ∧ D1.Up ∧ (e = 10 ∧ f1 = f ∧ D1 = D ∨ e = 0 ∧ Job 120 a ∧ f1 = wrote (ats a) f) := by
  have hn : ((D.n : Int) - 100) = 20 := by rw [h.size]; rfl
  by_cases hr : rightOf 20 a = false
  · refine ⟨10, D, f, ?_, h, hu, .inl ⟨rfl, rfl, rfl⟩⟩
    unfold PD.do_
    rw [if_neg (by decide), hn, if_pos hr]
  · have hj : Job 120 a := Job.of_right (by decide) (by decide) (by simpa using hr)
    have he := doJob_ends hj h
    obtain ⟨h1, h2⟩ := he.up hu
    exact ⟨0, _, _, An.do_of h.size hj h1 (by decide), he.done h1, h2, .inr ⟨rfl, hj, rfl⟩⟩
theorem new_rests : Rests 120 (fun _ => nought) (PD.new 120) := Rests.new (by decide) (by decide)
theorem Pending_none {w : World} {L : DL} {D : PD} (h : IsDisk w L D) (hs : D.Settled) :
    Calls Try.prog 18 #[.pointer (some ⟨L.p, 0, none⟩)] w fun e w' => ∃ A c, e = .returned (.slice A 0 c) ∧ Below w.heap.size w w' := by
  refine (Pending_any h).mono ?_
  rintro e w1 ⟨v, rfl, r, b⟩
  rw [ikeys_none hs] at r
  obtain ⟨A, c, rfl, -, -⟩ := Kd.R_reads r
  exact ⟨A, c, rfl, b⟩
/-- 'small' of one step. -/
theorem small_one {w w1 : World} (hb : Below w.heap.size w w1) {A : Option Addr} {a : List Ch} (hA : Kd.C inK w A a.length a) (ca : Nat) :
    Calls Try.prog 9 #[.slice (some ⟨w1.heap.size, 0, none⟩) 1 1, .int .i64 1] (w1.alloc (.cells #[.int .i64 0, .int .i64 0, .slice A a.length ca, .slice none 0 0, .bool false, .slice none 0 0] 29)) fun e w' => ∃ b, e = .returned (.bool b) ∧ (b = true → a.length ≤ 100) ∧ Below w.heap.size w w' := by
  have hst : Only (fun _ => False) w (w1.alloc (.cells #[.int .i64 0, .int .i64 0, .slice A a.length ca, .slice none 0 0, .bool false, .slice none 0 0] 29)) := Only.of_below (hb.alloc hb.size _) _
  refine (small_any1 (w := w1.alloc (.cells #[.int .i64 0, .int .i64 0, .slice A a.length ca, .slice none 0 0, .bool false, .slice none 0 0] 29)) (S := fun _ => False) w1.heap.size ⟨0, 0, A, a, ca, none, 0, 0, false, none, 0, 0⟩ 1 (heap_alloc_new w1 _) ((args_of hA (fun _ h => h.elim)).step hst)).mono ?_
  rintro e w2 ⟨b, rfl, h, b2⟩
  exact ⟨b, rfl, h, next_new (hb.alloc hb.size _) b2⟩
/-- The same, in the midst of a law. -/
theorem small_step {w w1 : World} {L : DL} {D : PD} {q : Nat} {A : Option Addr} {a : List Ch} (hA : Kd.C inK w A a.length a) (h : Jr w w1 L D q false) (ca : Nat) :
    Calls Try.prog 9 #[.slice (some ⟨w1.heap.size, 0, none⟩) 1 1, .int .i64 1] (w1.alloc (.cells #[.int .i64 0, .int .i64 0, .slice A a.length ca, .slice none 0 0, .bool false, .slice none 0 0] 29)) fun e w' => ∃ b, e = .returned (.bool b) ∧ (b = true → a.length ≤ 100) ∧ Below w1.heap.size w1 w' := by
  refine (small_any1 (w := w1.alloc (.cells #[.int .i64 0, .int .i64 0, .slice A a.length ca, .slice none 0 0, .bool false, .slice none 0 0] 29)) (S := fun _ => False) w1.heap.size ⟨0, 0, A, a, ca, none, 0, 0, false, none, 0, 0⟩ 1 (heap_alloc_new w1 _) ((args_of hA (fun _ h => h.elim)).step (Only.of_below (h.below.alloc h.below.size _) _))).mono ?_
  rintro e w2 ⟨b, rfl, h, b2⟩
  exact ⟨b, rfl, h, next_new ((Below.refl _ _).alloc (Nat.le_refl _) _) b2⟩
end Go.Proofs.Ytjpbpeiknnloeaa.Dk
