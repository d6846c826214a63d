/-
The law SignNumbers, as the printed Lean functions have it: the program's Number and the reference's tell the same number, for every text.
-/
import Derived.Test.YtnbgffndhkgdpaaDoorPureNum
import Derived.Test.YtnbgffndhkgdpaaDoorPureAnchor01
import Derived.Test.YtnbgffndhkgdpaaDoorPx7
namespace Go.Proofs.YtnbgffndhkgdpaaDoor.Pure
open Go.RowKit Go.Proofs.YtnbgffndhkgdpaaDoor.P Go.Proofs.YtnbgffndhkgdpaaDoorW.PrintWords Go.Proofs.YtnbgffndhkgdpaaDoorW.PrintLast Go.Proofs.YtnbgffndhkgdpaaDoorW.PrintMore
set_option linter.unusedVariables false
set_option linter.unusedSimpArgs false

theorem SignNumbers : ∀ (a0 : ByteArray), a0.size ≤ 140737488351232 → ∃ k, pantrylaw01_SignNumbers.f k a0 = some true := by
  intro s hs
  refine Ev.rounds ?_
  unfold pantrylaw01_SignNumbers.f
  refine ev_bind anchor_ev ?_
  by_cases hbig : (s.size : Int) > 1000
  · exact ev_now fun k => by rw [if_pos rfl, if_pos hbig]
  · refine ev_eq _ ?_ fun k => by rw [if_pos rfl, if_neg hbig]
    refine ev_bind (number_sign s (by omega)) ?_
    refine ev_bind (number_ref s (by omega)) ?_
    have hb := numS_bd s.data.toList
    have hf : far = 2147483648 := rfl
    refine ev_now fun k => ?_
    rw [if_pos rfl, if_pos (by simp), if_pos hb.1, decide_eq_true (by omega)]

end Go.Proofs.YtnbgffndhkgdpaaDoor.Pure
