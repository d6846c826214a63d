import Derived.Test.YtnbgffndhkgdpaaDoorPureBase
import Derived.Test.YtnbgffndhkgdpaaDoorPx2
import Derived.Test.YtnbgffndhkgdpaaDoorPx7
namespace Go.Proofs.YtnbgffndhkgdpaaDoor.Pure
open Go.RowKit Go.Proofs.YtnbgffndhkgdpaaDoor.P Go.Proofs.YtnbgffndhkgdpaaDoorW.PrintWords Go.Proofs.YtnbgffndhkgdpaaDoorW.PrintLast Go.Proofs.YtnbgffndhkgdpaaDoorW.PrintMore
set_option linter.unusedVariables false
set_option linter.unusedSimpArgs false

/-! ### numbers of digits -/
def digB (c : UInt8) : Bool := 48 ≤ c && c ≤ 57
def far : Int := 2147483648
def numL (a : Int) : List UInt8 → Option Int
  | [] => some a
  | c :: l => if digB c then numL (mn (10 * a + ((c.toNat : Int) - 48)) far) l else none
/-- What Number tells. -/
def numS (l : List UInt8) : Int × Bool := match numL 0 l with
  | some n => (n, !l.isEmpty)
  | none => (0, false)
theorem dig_lo (c : UInt8) (h : digB c = true) : 48 ≤ (c.toNat : Int) ∧ (c.toNat : Int) ≤ 57 := by
  unfold digB at h
  simp [UInt8.le_iff_toNat_le] at h
  omega
theorem dig_no (c : UInt8) (h : ¬ digB c = true) : (c.toNat : Int) < 48 ∨ 57 < (c.toNat : Int) := by
  unfold digB at h
  simp [UInt8.le_iff_toNat_le] at h
  omega
theorem number_loop (s : ByteArray) (hs : s.size ≤ 4611686018427387904) (l : List UInt8) : ∀ i a, Sfx s i l → 0 ≤ a → a ≤ far → Ev (fun k => sign_Number.l0 k s a (s.size : Int) i) (match numL a l with | some n => (n, !s.data.toList.isEmpty) | none => (0, false)) := by
  induction l with
  | nil =>
    intro i a h h0 h1
    refine ev_one fun k => ?_
    simp only [sign_Number.l0]; rw [if_neg h.stop, tl, ne_nilB]; rfl
  | cons c l ih =>
    intro i a h h0 h1
    have hf : far = 2147483648 := rfl
    by_cases hc : digB c = true
    · have hd := dig_lo c hc
      have hw : wrap64 (wrap64 (10 * a) + ((c.toNat : Int) - 48) % 256) = 10 * a + ((c.toNat : Int) - 48) := by
        rw [wrap_id (x := 10 * a) (by omega) (by omega), Int.emod_eq_of_lt (by omega) (by omega), wrap_id (by omega) (by omega)]
      refine ev_to _ (ev_rw (ih _ (mn (10 * a + ((c.toNat : Int) - 48)) far) h.next (by unfold mn; split <;> omega) (by unfold mn; split <;> omega)) (by rw [numL, if_pos hc])) fun k => ?_
      simp only [sign_Number.l0]; rw [if_pos h.lt, if_pos h.ge, if_pos h.lt, h.bt, if_neg (by omega), if_neg (by omega), hw, h.wrap hs]; rfl
    · have hd := dig_no c hc
      refine ev_one fun k => ?_
      simp only [sign_Number.l0]; rw [if_pos h.lt, if_pos h.ge, if_pos h.lt, h.bt, numL, if_neg hc]
      by_cases h48 : (c.toNat : Int) < 48
      · rw [if_pos h48]
      · rw [if_neg h48, if_pos (by omega)]
theorem number_sign (s : ByteArray) (hs : s.size ≤ 4611686018427387904) : Ev (fun k => sign_Number.f k s) (numS s.data.toList) :=
  ev_rw (number_loop s hs _ 0 0 (Sfx.start s) (by omega) (by unfold far; omega)) rfl
theorem numL_bd (l : List UInt8) : ∀ a n, 0 ≤ a → a ≤ far → numL a l = some n → 0 ≤ n ∧ n ≤ far := by
  induction l with
  | nil => intro a n h0 h1 h; cases h; exact ⟨h0, h1⟩
  | cons c l ih =>
    intro a n h0 h1 h
    rw [numL] at h
    by_cases hc : digB c = true
    · rw [if_pos hc] at h
      have hd := dig_lo c hc
      exact ih _ n (by unfold mn far at *; split <;> omega) (by unfold mn; split <;> omega) h
    · rw [if_neg hc] at h; cases h
theorem numS_bd (l : List UInt8) : 0 ≤ (numS l).1 ∧ (numS l).1 ≤ far := by
  unfold numS
  cases h : numL 0 l with
  | none => exact ⟨by simp, by unfold far; simp⟩
  | some n => exact numL_bd l 0 n (by omega) (by unfold far; omega) h
theorem number_ref_loop (s : ByteArray) (hs : s.size ≤ 4611686018427387904) (l : List UInt8) : ∀ i a b, Sfx s i l → 0 ≤ a → a ≤ 21474836489 → b = mn a far → Ev (fun k => pantryref01_Number.l0 k s a i) (match numL b l with | some n => (n, !s.data.toList.isEmpty) | none => (0, false)) := by
  induction l with
  | nil =>
    intro i a b h h0 h1 hb
    have hf : far = 2147483648 := rfl
    refine ev_one fun k => ?_
    simp only [pantryref01_Number.l0]; rw [if_neg h.stop, size_pos, hb, numL]
    by_cases hg : a > 2147483648
    · rw [if_pos hg]; unfold mn; rw [if_pos (by omega)]; rfl
    · rw [if_neg hg]; unfold mn; rw [if_neg (by omega)]
  | cons c l ih =>
    intro i a b h h0 h1 hb
    have hf : far = 2147483648 := rfl
    by_cases hc : digB c = true
    · have hd := dig_lo c hc
      have hmn : mn a far = if a < far then a else far := by unfold mn; split <;> split <;> omega
      refine ev_to (fun k => pantryref01_Number.j1 k s a i false) ?_ fun k => by
        simp only [pantryref01_Number.l0]; rw [if_pos h.lt, if_pos h.ge, h.bt, if_neg (by omega), decide_eq_false (by omega)]
      by_cases ha : a < 2147483648
      · have hw : wrap64 (wrap64 (10 * a) + ((c.toNat : Int) - 48) % 256) = 10 * a + ((c.toNat : Int) - 48) := by
          rw [wrap_id (x := 10 * a) (by omega) (by omega), Int.emod_eq_of_lt (by omega) (by omega), wrap_id (by omega) (by omega)]
        have hba : b = a := by rw [hb, hmn, if_pos (by omega)]
        refine ev_to _ (ev_rw (ih (i + 1) (10 * a + ((c.toNat : Int) - 48)) (mn (10 * a + ((c.toNat : Int) - 48)) far) h.next (by omega) (by omega) rfl) (by rw [hba, numL, if_pos hc])) fun k => ?_
        simp only [pantryref01_Number.j1]; rw [if_neg (by simp), if_pos ha, if_pos h.ge, if_pos h.lt, h.bt, hw, h.wrap hs]
      · have hba : b = far := by rw [hb, hmn, if_neg (by omega)]
        refine ev_to _ (ev_rw (ih (i + 1) a far h.next (by omega) (by omega) (by rw [hmn, if_neg (by omega)])) (by rw [hba, numL, if_pos hc, show mn (10 * far + ((c.toNat : Int) - 48)) far = far from by unfold mn; rw [if_pos (by omega)]])) fun k => ?_
        simp only [pantryref01_Number.j1]; rw [if_neg (by simp), if_neg ha, h.wrap hs]
    · have hd := dig_no c hc
      refine ev_to (fun k => pantryref01_Number.j1 k s a i true) ?_ fun k => ?_
      · refine ev_one fun k => ?_
        simp only [pantryref01_Number.j1]; rw [if_pos trivial, numL, if_neg hc]
      · simp only [pantryref01_Number.l0]; rw [if_pos h.lt, if_pos h.ge, h.bt]
        by_cases h48 : (c.toNat : Int) < 48
        · rw [if_pos h48]
        · rw [if_neg h48, decide_eq_true (by omega)]
theorem number_ref (s : ByteArray) (hs : s.size ≤ 4611686018427387904) : Ev (fun k => pantryref01_Number.f k s) (numS s.data.toList) :=
  ev_rw (number_ref_loop s hs _ 0 0 0 (Sfx.start s) (by omega) (by omega) (by decide)) rfl

end Go.Proofs.YtnbgffndhkgdpaaDoor.Pure
