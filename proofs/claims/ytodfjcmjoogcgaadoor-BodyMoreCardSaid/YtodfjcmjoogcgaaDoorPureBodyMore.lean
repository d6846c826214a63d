import Derived.Test.YtodfjcmjoogcgaaDoorPx4
import Derived.Test.YtodfjcmjoogcgaaDoorPureBodyChunks
namespace Go.Proofs.YtodfjcmjoogcgaaDoor.Pure
open Go.RowKit Go.Proofs.YtodfjcmjoogcgaaDoor.P Go.Proofs.YtodfjcmjoogcgaaDoorW.PrintWords Go.Proofs.YtodfjcmjoogcgaaDoorW.PrintLast Go.Proofs.YtodfjcmjoogcgaaDoorW.PrintMore
set_option linter.unusedVariables false
set_option linter.unusedSimpArgs false
theorem BodyMore : ∀ (l0 : List Int) (l1 : List Int) (a2 : Int), (l0.length ≤ 9223372036854775807 ∧ ∀ x ∈ l0, (Lit.int .u8 x).wf = true) → (l1.length ≤ 9223372036854775807 ∧ ∀ x ∈ l1, (Lit.int .i64 x).wf = true) → (Lit.int .i64 a2).wf = true → ∃ k, pantrylaw06_BodyMore.f k l0 l1 a2 = some true := by
  intro l0 l1 a2 _ _ _
  refine ⟨l1.length + 2, ?_⟩
  unfold pantrylaw06_BodyMore.f
  rw [bind_some anchor06, if_pos rfl]
  by_cases h1 : (l0.length : Int) > 2000
  · rw [if_pos h1]; simp [pantrylaw06_BodyMore.j0]
  rw [if_neg h1]
  by_cases h2 : (l1.length : Int) > 50
  · rw [if_pos h2]; simp [pantrylaw06_BodyMore.j0]
  rw [if_neg h2]
  by_cases h3 : a2 < 0
  · rw [decide_eq_true h3]; simp [pantrylaw06_BodyMore.j0]
  rw [decide_eq_false h3]
  obtain ⟨c, hc, hk⟩ := chunks_some l0 l1 (by omega) (by omega)
  have hcl := coded_len hc
  have hcp := coded_pos hc
  have hm0 : 0 ≤ Int.tmod a2 (c.length : Int) := Int.tmod_nonneg _ (by omega)
  have hm1 : Int.tmod a2 (c.length : Int) < (c.length : Int) := Int.tmod_lt_of_pos _ (by omega)
  simp only [pantrylaw06_BodyMore.j0]
  rw [if_neg (by decide), hk]
  simp only [Option.bind_some]
  rw [if_neg (by omega), if_pos hm0, if_pos (by omega)]
  generalize hj : (Int.tmod a2 (c.length : Int)).toNat = j
  have hjl : j < c.length := by omega
  have hpl : (c.take j).length = j := by rw [List.length_take]; omega
  have hb2 : ∃ o q, body_reader_chunks.f (c.take j) 0 0 = some (o, q, 20) := by
    unfold body_reader_chunks.f
    exact coded_cut hc (out := []) _ (by simp; omega) (by omega) (LS.start _) (List.take_prefix j c) (by intro e; have := congrArg List.length e; omega) (by omega)
  obtain ⟨o2, q2, hb2⟩ := hb2
  rw [read_chunks, read_chunks, hb2]
  simp only [Option.bind_some]
  have f1 : body_Read.fin o2 q2 20 false = some ([], 0, 20) := rfl
  have f2 : body_Read.fin o2 q2 20 true = some ([], 0, 21) := rfl
  rw [f1, f2]
  simp only [Option.bind_some]
  have hs : body_Read.f 1 (l0.length : Int) l0 ((Int.tmod a2 2) == 0) = some (l0.take (l0.length : Int).toNat, (l0.length : Int), 0) := by
    unfold body_Read.f
    rw [if_neg (by omega), if_pos rfl, if_neg (by omega), body_Read.fin_ok]
    unfold slices_Clone_byte_byte.f
    rw [if_pos (by rw [List.length_take]; omega)]
    rfl
  rw [hs]
  rfl
end Go.Proofs.YtodfjcmjoogcgaaDoor.Pure
