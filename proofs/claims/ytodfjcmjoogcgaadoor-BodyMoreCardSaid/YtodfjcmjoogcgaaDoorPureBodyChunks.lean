import Derived.Test.YtodfjcmjoogcgaaDoorPx4
import Derived.Test.YtodfjcmjoogcgaaDoorPureCut
namespace Go.Proofs.YtodfjcmjoogcgaaDoor.Pure
open Go.RowKit Go.Proofs.YtodfjcmjoogcgaaDoor.P Go.Proofs.YtodfjcmjoogcgaaDoorW.PrintWords Go.Proofs.YtodfjcmjoogcgaaDoorW.PrintLast Go.Proofs.YtodfjcmjoogcgaaDoorW.PrintMore
set_option linter.unusedVariables false
set_option linter.unusedSimpArgs false
theorem mn_min (a b : Int) : mn a b = min a b := by unfold mn; omega
theorem chunks_coded (x8 : List Int) (d : Nat) : ∀ (x0 out : List Int) (i : Int), 0 ≤ i → (x8.length : Int) - i = d → x8.length ≤ 1000 → x0.length ≤ 3000 → out.length + 20 * x0.length + 100 < 70368744177664 →
    ∃ c, Coded x0 c ∧ body_Chunks.l0 (d + 1) x0 out x8 (x8.length : Int) i = some (out ++ c) := by
  induction d with
  | zero =>
    intro x0 out i h0 hd h8 hx ho
    simp only [body_Chunks.l0]
    rw [if_neg (by omega)]
    by_cases hp : (x0.length : Int) > 0
    · have hne : x0 ≠ [] := by intro e; rw [e] at hp; simp at hp
      rw [if_pos hp, chunk_f out x0 (by omega) (by omega)]
      simp only [Option.bind_some]
      rw [chunk_f (out ++ enc x0) [] (by decide) (by rw [List.length_append]; have := enc_le x0 (by omega); omega)]
      exact ⟨enc x0 ++ enc [], by have := Coded.piece hne Coded.last; rwa [List.append_nil] at this, by simp⟩
    · have : x0 = [] := List.length_eq_zero_iff.1 (by omega)
      subst this
      rw [if_neg hp, chunk_f out [] (by decide) (by omega)]
      exact ⟨enc [], Coded.last, rfl⟩
  | succ d ih =>
    intro x0 out i h0 hd h8 hx ho
    have w1 : wrap64 (i + 1) = i + 1 := wrap_id (by omega) (by omega)
    have e1 : body_Chunks.l0 (d + 1 + 1) x0 out x8 (x8.length : Int) i = if (min (rd x8 i) (x0.length : Int)) > 0 then (body_chunk.f out (x0.take (min (rd x8 i) (x0.length : Int)).toNat)).bind fun t => body_Chunks.l0 (d + 1) (x0.drop (min (rd x8 i) (x0.length : Int)).toNat) t x8 (x8.length : Int) (i + 1) else body_Chunks.l0 (d + 1) x0 out x8 (x8.length : Int) (i + 1) := by
      rw [body_Chunks.l0]
      rw [if_pos (show i < (x8.length : Int) from by omega), if_pos h0, if_pos (show i < (x8.length : Int) from by omega), mn_min, w1]
      by_cases hm : (min (rd x8 i) (x0.length : Int)) > 0
      · rw [if_pos hm, if_pos hm, if_pos (by omega), if_pos (by omega)]
      · rw [if_neg hm, if_neg hm]
    rw [e1]
    by_cases hm : (min (rd x8 i) (x0.length : Int)) > 0
    · rw [if_pos hm]
      generalize hn : (min (rd x8 i) (x0.length : Int)).toNat = n
      have hn1 : 0 < n := by omega
      have hn2 : n ≤ x0.length := by omega
      have hl : (x0.take n).length = n := by rw [List.length_take]; omega
      have hel := enc_le (x0.take n) (by omega)
      rw [chunk_f out (x0.take n) (by omega) (by omega)]
      simp only [Option.bind_some]
      obtain ⟨c, hc, hr⟩ := ih (x0.drop n) (out ++ enc (x0.take n)) (i + 1) (by omega) (by omega) h8 (by rw [List.length_drop]; omega) (by rw [List.length_append, List.length_drop]; omega)
      refine ⟨enc (x0.take n) ++ c, ?_, by rw [hr, List.append_assoc]⟩
      have := Coded.piece (p := x0.take n) (by intro e; rw [e] at hl; simp at hl; omega) hc
      rwa [List.take_append_drop] at this
    · rw [if_neg hm]
      exact ih x0 out (i + 1) (by omega) (by omega) h8 hx ho
theorem chunks_some (l0 l1 : List Int) (h0 : l0.length ≤ 3000) (h1 : l1.length ≤ 1000) : ∃ c, Coded l0 c ∧ body_Chunks.f (l1.length + 1) l0 l1 = some c := by
  obtain ⟨c, hc, h⟩ := chunks_coded l1 l1.length l0 [] 0 (by omega) (by omega) h1 h0 (by simp; omega)
  exact ⟨c, hc, by unfold body_Chunks.f; rw [h]; rfl⟩
theorem read_chunks (s : List Int) (cl : Bool) : body_Read.f 2 0 s cl = (body_reader_chunks.f s 0 0).bind fun p => body_Read.fin p.1 p.2.1 p.2.2 cl := by
  unfold body_Read.f
  rw [if_neg (by omega), if_neg (by omega), if_pos rfl]
theorem anchor06 : pantrylaw06_anchor.f = some true := rfl
theorem BodyChunks : ∀ (l0 : List Int) (l1 : List Int) (l2 : List Int), (l0.length ≤ 9223372036854775807 ∧ ∀ x ∈ l0, (Lit.int .u8 x).wf = true) → (l1.length ≤ 9223372036854775807 ∧ ∀ x ∈ l1, (Lit.int .i64 x).wf = true) → (l2.length ≤ 9223372036854775807 ∧ ∀ x ∈ l2, (Lit.int .u8 x).wf = true) → ∃ k, pantrylaw06_BodyChunks.f k l0 l1 l2 = some true := by
  intro l0 l1 l2 _ _ _
  refine ⟨l1.length + 2, ?_⟩
  unfold pantrylaw06_BodyChunks.f
  rw [bind_some anchor06, if_pos rfl]
  by_cases h1 : (l0.length : Int) > 3000
  · rw [if_pos h1]; simp [pantrylaw06_BodyChunks.j0]
  rw [if_neg h1]
  by_cases h2 : (l1.length : Int) > 100
  · rw [if_pos h2]; simp [pantrylaw06_BodyChunks.j0]
  rw [if_neg h2]
  by_cases h3 : (l2.length : Int) > 100
  · rw [decide_eq_true h3]; simp [pantrylaw06_BodyChunks.j0]
  rw [decide_eq_false h3]
  obtain ⟨c, hc, hk⟩ := chunks_some l0 l1 (by omega) (by omega)
  have hcl := coded_len hc
  simp only [pantrylaw06_BodyChunks.j0]
  rw [if_neg (by decide), hk]
  simp only [Option.bind_some, List.nil_append, List.length_nil]
  rw [if_pos (by omega), if_pos (by omega), read_chunks]
  have hs : LS (c ++ l2) 0 (c ++ l2) := LS.start _
  unfold body_reader_chunks.f
  by_cases h4 : (l0.length : Int) > 2048
  · obtain ⟨o, j, hb⟩ := coded_big hc (out := []) ((c ++ l2).length + 3) (by omega) (by simp) (by simp; omega) (by rw [List.length_append]; omega) hs (by rw [List.length_append]; omega)
    rw [bind_some hb, bind_some (show body_Read.fin o j 23 false = some ([], 0, 23) from rfl), if_pos h4]
    rfl
  · have hb := coded_back hc (out := []) ((c ++ l2).length + 3) (by simp; omega) (by rw [List.length_append]; omega) hs (by rw [List.length_append]; omega)
    rw [hb]
    simp only [Option.bind_some, List.nil_append]
    rw [body_Read.fin_ok]
    unfold slices_Clone_byte_byte.f
    rw [if_pos (by omega)]
    simp only [Option.bind_some]
    rw [if_neg h4]
    simp
end Go.Proofs.YtodfjcmjoogcgaaDoor.Pure
