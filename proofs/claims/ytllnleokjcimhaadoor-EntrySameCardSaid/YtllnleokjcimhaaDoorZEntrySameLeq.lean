import Derived.Laws.Strings
/-
'<=' of texts, as the print has it: not greater.
-/
namespace Go.Proofs.YtllnleokjcimhaaDoor.P
open Go
set_option linter.unusedSimpArgs false
set_option linter.unusedVariables false
theorem less_flip : ∀ a b : List UInt8, (Op.bytesLess a b || a == b) = !(Op.bytesLess b a)
  | [], [] => by simp [Op.bytesLess]
  | [], _ :: _ => by simp [Op.bytesLess]
  | _ :: _, [] => by simp [Op.bytesLess]
  | x :: a, y :: b => by
    have ih := less_flip a b
    simp only [Op.bytesLess]
    rcases Nat.lt_trichotomy x.toNat y.toNat with h | h | h
    · have h1 : x < y := h
      have h2 : ¬ y < x := by have : ¬ y.toNat < x.toNat := by omega
                              exact this
      have h3 : (y == x) = false := by simp; intro e; subst e; omega
      simp [h1, h2, h3]
    · obtain rfl : x = y := UInt8.toNat.inj h
      have h1 : ¬ x < x := by have : ¬ x.toNat < x.toNat := by omega
                              exact this
      simp [h1] at ih ⊢
      exact ih
    · have h1 : y < x := h
      have h2 : ¬ x < y := by have : ¬ x.toNat < y.toNat := by omega
                              exact this
      have h3 : (x == y) = false := by simp; intro e; subst e; omega
      have h4 : x ≠ y := by intro e; subst e; omega
      simp [h1, h2, h3, h4]
@[go_sem high] theorem leq_string (t : TypeId) (a b : ByteArray) : binOp .leq t (.string a) (.string b) = pure (.bool !(Op.bytesLess b.toList a.toList)) := by
  rw [← less_flip]
  simp [binOp, Op.stringOp]
end Go.Proofs.YtllnleokjcimhaaDoor.P
