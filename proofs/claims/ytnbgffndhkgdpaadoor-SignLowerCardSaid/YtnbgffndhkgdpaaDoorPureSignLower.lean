/-
The law SignLower: small letters stay, letters alone change, lengths never do.
-/
import Derived.Test.YtnbgffndhkgdpaaDoorPureTok
import Derived.Test.YtnbgffndhkgdpaaDoorPureLow
import Derived.Test.YtnbgffndhkgdpaaDoorPureAnchor01
import Derived.Test.YtnbgffndhkgdpaaDoorPx9
namespace Go.Proofs.YtnbgffndhkgdpaaDoor.Pure
open Go.RowKit Go.Proofs.YtnbgffndhkgdpaaDoor.P Go.Proofs.YtnbgffndhkgdpaaDoorW.PrintWords Go.Proofs.YtnbgffndhkgdpaaDoorW.PrintLast Go.Proofs.YtnbgffndhkgdpaaDoorW.PrintMore
set_option linter.unusedVariables false
set_option linter.unusedSimpArgs false

theorem tokB_low (c : UInt8) : tokB (lowB c) = tokB c := by
  have := all_bytes (p := fun n => tokB (lowB (UInt8.ofNat n)) = tokB (UInt8.ofNat n)) (by decide +kernel) c
  simpa using this
theorem tokS_low (l : List UInt8) : tokS (lowS l) = tokS l := by
  unfold tokS lowS
  rw [List.all_map, show (tokB ∘ lowB) = tokB from funext tokB_low]
  cases l <;> rfl
theorem lower_law_loop (s t : ByteArray) (hs : s.size ≤ 140737488351232) (l : List UInt8) : ∀ i, Sfx s i l → Sfx t i (lowS l) → Ev (fun k => pantrylaw01_SignLower.l0 k s t (s.size : Int) i) true := by
  induction l with
  | nil =>
    intro i h h2
    refine ev_one fun k => ?_
    simp only [pantrylaw01_SignLower.l0]; rw [if_neg h.stop]
  | cons c l ih =>
    intro i h h2
    have h2' : Sfx t i (lowB c :: lowS l) := h2
    refine ev_to _ (ih (i + 1) h.next h2'.next) fun k => ?_
    have hc := lowB_toNat c
    simp only [pantrylaw01_SignLower.l0]; rw [if_pos h.lt, if_pos h.ge, if_pos h2'.lt, if_pos h.lt, h.bt, h2'.bt, h.wrap (by omega)]
    by_cases hcc : 65 ≤ (c.toNat : Int) ∧ (c.toNat : Int) ≤ 90
    · rw [if_pos hcc] at hc
      rw [if_neg (by omega), if_neg (by omega), if_neg (by omega), if_pos hc]
    · rw [if_neg hcc] at hc
      rw [if_pos hc]
theorem SignLower : ∀ (a0 : ByteArray), a0.size ≤ 140737488351232 → ∃ k, pantrylaw01_SignLower.f k a0 = some true := by
  intro s hs
  refine Ev.rounds ?_
  unfold pantrylaw01_SignLower.f
  refine ev_bind anchor_ev ?_
  by_cases hbig : (s.size : Int) > 1000
  · exact ev_now fun k => by rw [if_pos rfl, if_pos hbig]
  · have hl := lower_sign s (by omega)
    have hsz : (⟨(lowS s.data.toList).toArray⟩ : ByteArray).size = s.size := by rw [mk_size, lowS_length, sz]
    generalize ht : (⟨(lowS s.data.toList).toArray⟩ : ByteArray) = t at *
    have htd : t.data.toList = lowS s.data.toList := by rw [← ht]
    have hl2 := lower_sign t (by omega)
    have ht2 : (⟨(lowS t.data.toList).toArray⟩ : ByteArray) = t := by rw [htd, lowS_idem, ht]
    rw [ht2] at hl2
    refine ev_eq _ ?_ fun k => by rw [if_pos rfl, if_neg hbig, bind_some hl, if_pos (by rw [hsz]), bind_some hl2, if_pos rfl]
    refine ev_bind (token_sign s (by omega)) ?_
    refine ev_bind (token_sign t (by omega)) ?_
    rw [htd, tokS_low]
    refine ev_to _ (lower_law_loop s t hs s.data.toList 0 (Sfx.start s) (by rw [← htd]; exact Sfx.start t)) fun k => ?_
    simp only [pantrylaw01_SignLower.j0]; rw [if_neg (by simp)]

end Go.Proofs.YtnbgffndhkgdpaaDoor.Pure
