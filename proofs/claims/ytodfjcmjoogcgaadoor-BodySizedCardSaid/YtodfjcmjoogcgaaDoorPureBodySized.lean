import Derived.Test.YtodfjcmjoogcgaaDoorPx7
import Derived.Test.YtodfjcmjoogcgaaDoorPureBase
namespace Go.Proofs.YtodfjcmjoogcgaaDoor.Pure
open Go.RowKit Go.Proofs.YtodfjcmjoogcgaaDoor.P Go.Proofs.YtodfjcmjoogcgaaDoorW.PrintWords Go.Proofs.YtodfjcmjoogcgaaDoorW.PrintLast Go.Proofs.YtodfjcmjoogcgaaDoorW.PrintMore
set_option linter.unusedVariables false
set_option linter.unusedSimpArgs false
theorem anchor06s : pantrylaw06_anchor.f = some true := rfl
theorem read_short (b : List Int) (n : Int) (h0 : 0 ≤ n) (h1 : n ≤ 2048) (h : (b.length : Int) < n) (c : Bool) : body_Read.f 1 n b c = some ([], 0, if c = true then 21 else 20) := by
  unfold body_Read.f body_Read.fin
  rw [if_neg (by omega), if_pos rfl, if_pos h]
  cases c <;> rfl
theorem read_sized (b : List Int) (n : Int) (h0 : 0 ≤ n) (h1 : n ≤ 2048) (h : ¬ (b.length : Int) < n) (c : Bool) : body_Read.f 1 n b c = some (b.take n.toNat, n, 0) := by
  unfold body_Read.f
  rw [if_neg (by omega), if_pos rfl, if_neg h, body_Read.fin_ok]
  unfold slices_Clone_byte_byte.f
  rw [if_pos (by rw [List.length_take]; omega)]
  rfl
theorem BodySized : ∀ (l0 : List Int) (a1 : Int), (l0.length ≤ 9223372036854775807 ∧ ∀ x ∈ l0, (Lit.int .u8 x).wf = true) → (Lit.int .i64 a1).wf = true → ∃ k, pantrylaw06_BodySized.f k l0 a1 = some true := by
  intro l0 a1 _ _
  refine ⟨20, ?_⟩
  unfold pantrylaw06_BodySized.f
  rw [bind_some anchor06s, if_pos rfl]
  by_cases h1 : (l0.length : Int) > 3000
  · rw [if_pos h1]; simp [pantrylaw06_BodySized.j0]
  · rw [if_neg h1]
    by_cases h2 : a1 < 0
    · rw [if_pos h2]; simp [pantrylaw06_BodySized.j0]
    · rw [if_neg h2]
      by_cases h3 : a1 > 2048
      · rw [decide_eq_true h3]; simp [pantrylaw06_BodySized.j0]
      · rw [decide_eq_false h3]
        simp only [pantrylaw06_BodySized.j0]
        rw [if_neg (by decide)]
        by_cases h4 : (l0.length : Int) < a1
        · rw [read_short l0 a1 (by omega) (by omega) h4, read_short l0 a1 (by omega) (by omega) h4]
          simp only [Option.bind_some]
          rw [if_pos h4]
          rfl
        · rw [read_sized l0 a1 (by omega) (by omega) h4, read_sized l0 a1 (by omega) (by omega) h4]
          simp only [Option.bind_some]
          rw [if_neg h4]
          simp only [if_true]
          rw [if_pos (by omega), if_pos (by omega)]
          simp
end Go.Proofs.YtodfjcmjoogcgaaDoor.Pure
