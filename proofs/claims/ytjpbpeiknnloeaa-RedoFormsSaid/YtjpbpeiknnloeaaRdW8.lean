/-
What '(*Redo).Do' does with a job.
-/
import Derived.Test.YtjpbpeiknnloeaaRdW7
namespace Go.Proofs.Ytjpbpeiknnloeaa.Dk
open Go.RowKit Go.Maps Go.Proofs.YtjpbpeiknnloeaaW.PrintWords Go.Proofs.YtjpbpeiknnloeaaW.PrintLast Go.Proofs.YtjpbpeiknnloeaaW.PrintMore
set_option linter.unusedVariables false
set_option linter.unusedSimpArgs false

theorem Rws.rest {S : Nat → Prop} {w : World} {g : Nat} {b : List Int} {r : List (List Int)} (h : Rws S w (some ⟨g, 0, none⟩) (b :: r)) (hp : 0 < r.length) : Rws S w (some ⟨g, 1, none⟩) r := by
  obtain ⟨vs, h1, h2, h3⟩ := h
  cases vs with
  | nil => simp at h1
  | cons v0 vs =>
    have hl : vs.length = r.length := by simpa using h1
    refine ⟨vs, hl, fun w' ho => ?_, fun j v x hv hx => h3 (j + 1) v x (by simpa using hv) (by simpa using hx)⟩
    have h4 := Kd.C_drop (c := vs.length + 2) (m := 1) (h2 w' ho) (by simp) (by simp)
    rw [if_neg (by omega)] at h4
    exact h4
theorem numbered_get (k : Int) (l : List (List Int)) (i : Nat) : (PD.numbered k l)[i]? = l[i]?.map fun b => (k + i, b) := by
  induction l generalizing k i with
  | nil => simp [PD.numbered]
  | cons b r ih =>
    cases i with
    | zero => simp [PD.numbered]
    | succ i =>
      show (PD.numbered (k + 1) r)[i]? = _
      rw [ih]
      simp
      congr 1
      funext b
      congr 1
      omega
theorem numbered_length (k : Int) (l : List (List Int)) : (PD.numbered k l).length = l.length := by
  induction l generalizing k with
  | nil => rfl
  | cons b r ih => simp [PD.numbered, ih]
theorem right_props {n : Int} {l : List Ch} (h : rightOf n l = true) : (∀ c ∈ l, 0 ≤ c.1 ∧ c.1 < n ∧ c.2.length ≤ 64) ∧ (l.map (·.1)).Nodup ∧ 1 ≤ l.length ∧ l.length ≤ 96 := by
  unfold rightOf at h
  exact of_decide_eq_true h
/-- Rows numbered, as slices by their words. -/
def Numbers (S : Nat → Prop) (w : World) (bs : List (List Int)) (vs : List (Int × SV)) : Prop := ∀ (i : Nat) v b, vs[i]? = some v → bs[i]? = some b → v.1 = 1 + (i : Int) ∧ Sees S w v.2 b
theorem Numbers.snoc {S : Nat → Prop} {w : World} {bs : List (List Int)} {vs : List (Int × SV)} (h : Numbers S w bs vs) {j : Nat} (hj : vs.length = j) {b : List Int} (hx : bs[j]? = some b) {n : Int} (hn : n = 1 + (j : Int)) {s : SV} (hs : Sees S w s b) : Numbers S w bs (vs ++ [(n, s)]) := by
  intro i v y hv hy
  rcases Nat.lt_trichotomy i vs.length with hi | hi | hi
  · rw [List.getElem?_append_left hi] at hv; exact h i v y hv hy
  · subst hi; subst hj
    rw [List.getElem?_append_right (Nat.le_refl _), Nat.sub_self] at hv
    obtain rfl := Option.some.inj hv
    rw [hx] at hy
    obtain rfl := Option.some.inj hy
    exact ⟨hn, hs⟩
  · rw [List.getElem?_eq_none (by simp; omega)] at hv; cases hv
end Go.Proofs.Ytjpbpeiknnloeaa.Dk
