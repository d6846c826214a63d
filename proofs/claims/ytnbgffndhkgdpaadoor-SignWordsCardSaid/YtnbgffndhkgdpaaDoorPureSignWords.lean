/-
The law SignWords: Token, Lower, Trim and Same are the reference's.
-/
import Derived.Test.YtnbgffndhkgdpaaDoorPureTok
import Derived.Test.YtnbgffndhkgdpaaDoorPureLow
import Derived.Test.YtnbgffndhkgdpaaDoorPureTrim
import Derived.Test.YtnbgffndhkgdpaaDoorPureAnchor01
import Derived.Test.YtnbgffndhkgdpaaDoorPx10
namespace Go.Proofs.YtnbgffndhkgdpaaDoor.Pure
open Go.RowKit Go.Proofs.YtnbgffndhkgdpaaDoor.P Go.Proofs.YtnbgffndhkgdpaaDoorW.PrintWords Go.Proofs.YtnbgffndhkgdpaaDoorW.PrintLast Go.Proofs.YtnbgffndhkgdpaaDoorW.PrintMore
set_option linter.unusedVariables false
set_option linter.unusedSimpArgs false

theorem same_sign (s t : ByteArray) (hs : s.size ≤ 4611686018427387904) (ht : t.size ≤ 4611686018427387904) : sign_Same.f s t = some (lowS s.data.toList == lowS t.data.toList) := by
  unfold sign_Same.f
  rw [bind_some (lower_sign s hs), bind_some (lower_sign t ht), tl, tl]
theorem SignWords : ∀ (a0 : ByteArray) (a1 : ByteArray), a0.size ≤ 140737488351232 → a1.size ≤ 140737488351232 → ∃ k, pantrylaw01_SignWords.f k a0 a1 = some true := by
  intro s t hs ht
  refine Ev.rounds ?_
  unfold pantrylaw01_SignWords.f
  refine ev_bind anchor_ev ?_
  have hj : Ev (fun k => pantrylaw01_SignWords.j0 k s t true) true := ev_one fun k => by simp only [pantrylaw01_SignWords.j0]; rw [if_pos trivial]
  by_cases hbig : (s.size : Int) > 2000
  · exact ev_eq _ hj fun k => by rw [if_pos rfl, if_pos hbig]
  · by_cases hbig2 : (t.size : Int) > 2000
    · exact ev_eq _ hj fun k => by rw [if_pos rfl, if_neg hbig, decide_eq_true hbig2]
    · refine ev_eq (fun k => pantrylaw01_SignWords.j0 k s t false) ?_ fun k => by rw [if_pos rfl, if_neg hbig, decide_eq_false hbig2]
      have hl := lower_sign s (by omega)
      have hlsz : (⟨(lowS s.data.toList).toArray⟩ : ByteArray).size ≤ 4611686018427387904 := by rw [mk_size, lowS_length, ← sz]; omega
      have h1 := same_sign s t (by omega) (by omega)
      have h2 := same_sign s _ (by omega) hlsz
      refine ev_to (fun k => (sign_Token.f k s).bind fun t236 => ((pantryref01_Token.f k s).bind fun t237 => (if (t236 == t237) = true then ((sign_Lower.f s).bind fun t238 => ((pantryref01_Lower.f k s).bind fun t239 => (if t238.toList = t239.toList then ((sign_Trim.f s).bind fun t240 => ((pantryref01_Trim.f k s).bind fun t241 => (if t240.toList = t241.toList then ((sign_Same.f s t).bind fun t242 => ((pantryref01_Lower.f k s).bind fun t243 => ((pantryref01_Lower.f k t).bind fun t244 => (if (t242 == (t243.toList == t244.toList)) = true then ((sign_Lower.f s).bind fun t245 => ((sign_Same.f s t245).bind fun t246 => (some t246))) else (some false))))) else (some false)))) else (some false)))) else (some false)))) ?_ fun k => by
        simp only [pantrylaw01_SignWords.j0]; rw [if_neg (by simp)]
      refine ev_bind (token_sign s (by omega)) ?_
      refine ev_bind (token_ref s (by omega)) ?_
      refine ev_eq _ ?_ fun k => by rw [if_pos (by simp), bind_some hl]
      refine ev_bind (lower_ref s (by omega)) ?_
      refine ev_eq _ ?_ fun k => by rw [if_pos rfl, bind_some (trim_sign s (by omega))]
      refine ev_bind (trim_ref s (by omega)) ?_
      refine ev_eq _ ?_ fun k => by rw [if_pos rfl, bind_some h1]
      refine ev_bind (lower_ref s (by omega)) ?_
      refine ev_bind (lower_ref t (by omega)) ?_
      refine ev_now fun k => ?_
      rw [if_pos (by rw [tl, tl]; simp), bind_some hl, bind_some h2]
      simp [lowS_idem]

end Go.Proofs.YtnbgffndhkgdpaaDoor.Pure
