import Derived.Test.YtnbgffndhkgdpaaDoorPureBase
import Derived.Test.YtnbgffndhkgdpaaDoorPx1
import Derived.Test.YtnbgffndhkgdpaaDoorPx6
namespace Go.Proofs.YtnbgffndhkgdpaaDoor.Pure
open Go.RowKit Go.Proofs.YtnbgffndhkgdpaaDoor.P Go.Proofs.YtnbgffndhkgdpaaDoorW.PrintWords Go.Proofs.YtnbgffndhkgdpaaDoorW.PrintLast Go.Proofs.YtnbgffndhkgdpaaDoorW.PrintMore
set_option linter.unusedVariables false
set_option linter.unusedSimpArgs false

/-! ### letters and tokens -/
def letB (c : UInt8) : Bool := (97 ≤ c && c ≤ 122) || (65 ≤ c && c ≤ 90) || (48 ≤ c && c ≤ 57)
def marks : List UInt8 := [33, 35, 36, 37, 38, 39, 42, 43, 45, 46, 94, 95, 124, 126, 96]
def tokB (c : UInt8) : Bool := letB c || marks.contains c
def tokS (l : List UInt8) : Bool := !l.isEmpty && l.all tokB
theorem letter_sign (c : UInt8) : sign_letter.f (c.toNat : Int) = some (letB c) := by
  have := all_bytes (p := fun n => sign_letter.f (n : Int) = some (letB (UInt8.ofNat n))) (by decide +kernel) c
  simpa using this
theorem letter_ref (c : UInt8) : pantryref01_Letter.f (c.toNat : Int) = some (letB c) := by
  have := all_bytes (p := fun n => pantryref01_Letter.f (n : Int) = some (letB (UInt8.ofNat n))) (by decide +kernel) c
  simpa using this
theorem sign_ref (c : UInt8) : pantryref01_Sign.f (c.toNat : Int) = some (tokB c) := by
  have := all_bytes (p := fun n => pantryref01_Sign.f (n : Int) = some (tokB (UInt8.ofNat n))) (by decide +kernel) c
  simpa using this
theorem index_marks (c : UInt8) : ∃ n : Int, strings_IndexByte.f (⟨#[33, 35, 36, 37, 38, 39, 42, 43, 45, 46, 94, 95, 124, 126, 96]⟩ : ByteArray) (c.toNat : Int) = some n ∧ (n < 0 ↔ marks.contains c = false) := by
  refine ⟨_, rfl, ?_⟩
  have := all_bytes (p := fun n => (Lib.indexByte marks ((n : Int).toNat.toUInt8) < 0 ↔ marks.contains (UInt8.ofNat n) = false)) (by decide +kernel) c
  simpa [marks] using this
theorem token_loop (s : ByteArray) (hs : s.size ≤ 4611686018427387904) (l : List UInt8) : ∀ i, Sfx s i l → Ev (fun k => sign_Token.l0 k s (s.size : Int) i) (l.all tokB && !s.data.toList.isEmpty) := by
  induction l with
  | nil =>
    intro i h
    refine ev_one fun k => ?_
    simp only [sign_Token.l0]; rw [if_neg h.stop, tl, ne_nilB]; rfl
  | cons c l ih =>
    intro i h
    obtain ⟨n, hn, hn2⟩ := index_marks c
    by_cases hc : tokB c = true
    · refine ev_to _ (ev_rw (ih _ h.next) (by simp [List.all_cons, hc])) fun k => ?_
      simp only [sign_Token.l0]; rw [if_pos h.lt, if_pos h.ge, if_pos h.lt, h.bt, letter_sign, bind_some rfl, h.wrap hs]
      by_cases hl : letB c = true
      · rw [if_pos hl]
      · have hm : marks.contains c = true := by unfold tokB at hc; simpa [hl] using hc
        rw [if_neg hl, bind_some hn, if_neg (by rw [hn2, hm]; simp)]
    · refine ev_one fun k => ?_
      have hl : letB c = false := by unfold tokB at hc; simp at hc; exact hc.1
      have hm : marks.contains c = false := by unfold tokB at hc; simp [hl] at hc; simpa using hc
      simp only [sign_Token.l0]; rw [if_pos h.lt, if_pos h.ge, if_pos h.lt, h.bt, letter_sign, bind_some rfl, if_neg (by rw [hl]; simp), bind_some hn, if_pos (hn2.2 hm)]
      simp [List.all_cons, hc]
theorem token_sign (s : ByteArray) (hs : s.size ≤ 4611686018427387904) : Ev (fun k => sign_Token.f k s) (tokS s.data.toList) :=
  ev_rw (token_loop s hs _ 0 (Sfx.start s)) (by unfold tokS; exact Bool.and_comm _ _)
theorem token_ref_loop (s : ByteArray) (hs : s.size ≤ 4611686018427387904) (l : List UInt8) : ∀ i, Sfx s i l → Ev (fun k => pantryref01_Token.l0 k s i) (l.all tokB && !s.data.toList.isEmpty) := by
  induction l with
  | nil =>
    intro i h
    refine ev_one fun k => ?_
    simp only [pantryref01_Token.l0]; rw [if_neg h.stop]
    rw [size_pos]; rfl
  | cons c l ih =>
    intro i h
    by_cases hc : tokB c = true
    · refine ev_to _ (ev_rw (ih _ h.next) (by simp [List.all_cons, hc])) fun k => ?_
      simp only [pantryref01_Token.l0]; rw [if_pos h.lt, if_pos h.ge, h.bt, sign_ref, bind_some rfl, h.wrap hs, if_pos hc]
    · refine ev_one fun k => ?_
      simp only [pantryref01_Token.l0]; rw [if_pos h.lt, if_pos h.ge, h.bt, sign_ref, bind_some rfl, if_neg hc]
      simp [List.all_cons, hc]
theorem token_ref (s : ByteArray) (hs : s.size ≤ 4611686018427387904) : Ev (fun k => pantryref01_Token.f k s) (tokS s.data.toList) :=
  ev_rw (token_ref_loop s hs _ 0 (Sfx.start s)) (by unfold tokS; exact Bool.and_comm _ _)

end Go.Proofs.YtnbgffndhkgdpaaDoor.Pure
