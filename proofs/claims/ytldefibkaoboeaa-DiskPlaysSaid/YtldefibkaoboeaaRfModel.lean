/-
Flushes and crashes of the reference, sector by sector.
-/
import Derived.Test.YtldefibkaoboeaaDkW6
namespace Go.Proofs.Ytldefibkaoboeaa.Dk
set_option linter.unusedVariables false
set_option linter.unusedSimpArgs false
namespace PD
/-- Behind the first j sectors. -/
def upTo (D : PD) (keep : Nat → Bool) (j : Nat) : PD :=
  { D with st := fun i => match D.pe i with | some b => if i < j ∧ keep (D.rank i) = true then b else D.st i | none => D.st i, pe := fun i => if i < j then none else D.pe i }
theorem upTo_zero (D : PD) (keep : Nat → Bool) : D.upTo keep 0 = D := by
  unfold upTo
  have h1 : (fun i => match D.pe i with | some b => if i < 0 ∧ keep (D.rank i) = true then b else D.st i | none => D.st i) = D.st := by
    funext i; split <;> simp
  have h2 : (fun i => if i < 0 then none else D.pe i) = D.pe := by funext i; simp
  rw [h1, h2]
theorem upTo_none (D : PD) (keep : Nat → Bool) {j : Nat} (h : D.pe j = none) : D.upTo keep (j + 1) = D.upTo keep j := by
  unfold upTo
  simp only [PD.mk.injEq, and_true, true_and]
  refine ⟨?_, ?_⟩
  · funext i
    by_cases hij : i = j
    · subst hij; simp [h]
    · have : (i < j + 1) = (i < j) := by apply propext; omega
      simp only [this]
  · funext i
    by_cases hij : i = j
    · subst hij; simp [h]
    · have : (i < j + 1) = (i < j) := by apply propext; omega
      simp only [this]
theorem upTo_pe (D : PD) (keep : Nat → Bool) (j : Nat) : (D.upTo keep j).pe j = D.pe j := by simp [upTo]
theorem upTo_keep (D : PD) (keep : Nat → Bool) {j : Nat} {b : List Int} (h : D.pe j = some b) (hk : keep (D.rank j) = true) :
    D.upTo keep (j + 1) = { D.upTo keep j with st := fun i => if i = j then b else (D.upTo keep j).st i, pe := fun i => if i = j then none else (D.upTo keep j).pe i } := by
  unfold upTo
  simp only [PD.mk.injEq, and_true, true_and]
  refine ⟨?_, ?_⟩
  · funext i
    by_cases hij : i = j
    · subst hij; simp [h, hk]
    · have : (i < j + 1) = (i < j) := by apply propext; omega
      simp only [this, if_neg hij]
  · funext i
    by_cases hij : i = j
    · subst hij; simp
    · have : (i < j + 1) = (i < j) := by apply propext; omega
      simp only [this, if_neg hij]
theorem upTo_drop (D : PD) (keep : Nat → Bool) {j : Nat} {b : List Int} (h : D.pe j = some b) (hk : keep (D.rank j) = false) :
    D.upTo keep (j + 1) = { D.upTo keep j with pe := fun i => if i = j then none else (D.upTo keep j).pe i } := by
  unfold upTo
  simp only [PD.mk.injEq, and_true, true_and]
  refine ⟨?_, ?_⟩
  · funext i
    by_cases hij : i = j
    · subst hij; simp [h, hk]
    · have : (i < j + 1) = (i < j) := by apply propext; omega
      simp only [this]
  · funext i
    by_cases hij : i = j
    · subst hij; simp
    · have : (i < j + 1) = (i < j) := by apply propext; omega
      simp only [this, if_neg hij]
theorem upTo_end (D : PD) (hg : D.Good) (keep : Nat → Bool) : D.upTo keep D.n = D.stand keep := by
  unfold upTo stand
  simp only [PD.mk.injEq, and_true, true_and]
  refine ⟨?_, ?_⟩
  · funext i
    cases hp : D.pe i with
    | none => rfl
    | some b => have := (hg.fullp i b hp).1; simp [this]
  · funext i
    cases hp : D.pe i with
    | none => simp
    | some b => have := (hg.fullp i b hp).1; simp [this]
theorem rank_zero (D : PD) : D.rank 0 = 0 := rfl
theorem rank_yes (D : PD) {i : Nat} {b : List Int} (h : D.pe i = some b) : D.rank (i + 1) = D.rank i + 1 := by
  unfold rank
  rw [List.range_succ, List.filter_append, List.length_append]
  simp [h]
theorem rank_no (D : PD) {i : Nat} (h : D.pe i = none) : D.rank (i + 1) = D.rank i := by
  unfold rank
  rw [List.range_succ, List.filter_append, List.length_append]
  simp [h]
theorem rank_le (D : PD) (i : Nat) : D.rank i ≤ i := by
  unfold rank
  exact Nat.le_trans (List.length_filter_le _ _) (by rw [List.length_range]; exact Nat.le_refl _)
theorem rank_n (D : PD) : D.rank D.n = D.keys.length := rfl
end PD
end Go.Proofs.Ytldefibkaoboeaa.Dk
