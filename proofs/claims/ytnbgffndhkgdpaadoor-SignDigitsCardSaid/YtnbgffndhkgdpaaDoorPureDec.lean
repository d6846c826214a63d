import Derived.Test.YtnbgffndhkgdpaaDoorPureNum
namespace Go.Proofs.YtnbgffndhkgdpaaDoor.Pure
open Go.RowKit Go.Proofs.YtnbgffndhkgdpaaDoor.P Go.Proofs.YtnbgffndhkgdpaaDoorW.PrintWords Go.Proofs.YtnbgffndhkgdpaaDoorW.PrintLast Go.Proofs.YtnbgffndhkgdpaaDoorW.PrintMore
set_option linter.unusedVariables false
set_option linter.unusedSimpArgs false

/-! ### a number's digits -/
def decN (n : Nat) : List UInt8 := if h : n < 10 then [UInt8.ofNat (48 + n)] else decN (n / 10) ++ [UInt8.ofNat (48 + n % 10)]
termination_by n
decreasing_by omega
theorem decN_lo (n : Nat) (h : n < 10) : decN n = [UInt8.ofNat (48 + n)] := by rw [decN, dif_pos h]
theorem decN_hi (n : Nat) (h : ¬ n < 10) : decN n = decN (n / 10) ++ [UInt8.ofNat (48 + n % 10)] := by rw [decN, dif_neg h]
theorem dig_of (d : Nat) (h : d < 10) : digB (UInt8.ofNat (48 + d)) = true ∧ ((UInt8.ofNat (48 + d)).toNat : Int) = 48 + d := by
  have e : (UInt8.ofNat (48 + d)).toNat = 48 + d := by rw [UInt8.toNat_ofNat']; omega
  refine ⟨?_, by rw [e]; omega⟩
  unfold digB
  simp [UInt8.le_iff_toNat_le, e]
  omega
theorem numL_app (l m : List UInt8) : ∀ a, numL a (l ++ m) = (numL a l).bind fun b => numL b m := by
  induction l with
  | nil => intro a; rfl
  | cons c l ih =>
    intro a
    rw [List.cons_append, numL, numL]
    by_cases hc : digB c = true
    · rw [if_pos hc, if_pos hc, ih]
    · rw [if_neg hc, if_neg hc]; rfl
theorem numL_dec (n : Nat) : numL 0 (decN n) = some (mn (n : Int) far) := by
  induction n using Nat.strongRecOn with
  | _ n ih =>
    have hf : far = 2147483648 := rfl
    by_cases h : n < 10
    · obtain ⟨h1, h2⟩ := dig_of n h
      rw [decN_lo n h, numL, if_pos h1, h2, numL]
      congr 1; unfold mn; split <;> split <;> omega
    · obtain ⟨h1, h2⟩ := dig_of (n % 10) (by omega)
      rw [decN_hi n h, numL_app, ih (n / 10) (by omega)]
      show numL (mn ((n / 10 : Nat) : Int) far) [UInt8.ofNat (48 + n % 10)] = _
      rw [numL, if_pos h1, h2, numL]
      congr 1
      unfold mn
      split <;> split <;> split <;> omega
theorem numL_zeros (z : Nat) (l : List UInt8) : numL 0 (List.replicate z 48 ++ l) = numL 0 l := by
  induction z with
  | zero => rfl
  | succ z ih => rw [List.replicate_succ, List.cons_append, numL, if_pos (by decide)]; exact ih
theorem decN_pos (n : Nat) : 0 < (decN n).length := by
  by_cases h : n < 10
  · rw [decN_lo n h]; simp
  · rw [decN_hi n h]; simp
theorem decN_len (n : Nat) : (decN n).length ≤ n + 1 := by
  induction n using Nat.strongRecOn with
  | _ n ih =>
    by_cases h : n < 10
    · rw [decN_lo n h]; simp
    · rw [decN_hi n h, List.length_append]
      have := ih (n / 10) (by omega)
      simp; omega
theorem decN_len2 (n : Nat) : ∀ d, n < 10 ^ d → 0 < d → (decN n).length ≤ d := by
  induction n using Nat.strongRecOn with
  | _ n ih =>
    intro d hd h0
    by_cases h : n < 10
    · rw [decN_lo n h]; simp; omega
    · rw [decN_hi n h, List.length_append]
      obtain ⟨e, rfl⟩ : ∃ e, d = e + 1 := ⟨d - 1, by omega⟩
      have h2 : 0 < e := by
        rcases Nat.eq_zero_or_pos e with rfl | h2
        · simp at hd; omega
        · exact h2
      have := ih (n / 10) (by omega) e (by rw [Nat.pow_succ] at hd; omega) h2
      simp; omega
theorem str_one (n : Int) (h0 : 0 ≤ n) (h1 : n < 256) : strOfNums [n] = ⟨#[UInt8.ofNat n.toNat]⟩ := rfl

end Go.Proofs.YtnbgffndhkgdpaaDoor.Pure
