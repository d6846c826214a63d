import Derived.Test.YtllnleokjcimhaaDoorZEntryFitsEnOpen
/-
The law EntryTurns: any record, turned through any versions, is the same entry at the end, or stopped at the first version that can't have it.
-/
namespace Go.Proofs.YtllnleokjcimhaaDoor.En
open Go.RowKit Go.Maps Go.Proofs.YtllnleokjcimhaaDoorW.PrintWords Go.Proofs.YtllnleokjcimhaaDoorW.PrintLast Go.Proofs.YtllnleokjcimhaaDoorW.PrintMore Go.Proofs.YtllnleokjcimhaaDoor.P Go.Proofs.YtllnleokjcimhaaDoor.Pure
set_option linter.unusedVariables false
set_option linter.unusedSimpArgs false
theorem turn_enc {x : PE} {v0 : Int} (h : fitsP x v0 = true) (hbd : ∀ c ∈ x.body, 0 ≤ c ∧ c < 256) (hl : (restP v0 x).length ≤ 3992) (v : Int) : turnP (recOf v0 (restP v0 x)) v = encP v x := by
  unfold turnP
  rw [dec_enc x v0 h hbd hl]
  rfl
end Go.Proofs.YtllnleokjcimhaaDoor.En
