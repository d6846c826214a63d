import Derived.Test.YtnbgffndhkgdpaaDoorPureBase
import Derived.Test.YtnbgffndhkgdpaaDoorHelp
import Derived.Test.YtnbgffndhkgdpaaDoorPx9
import Derived.Test.YtnbgffndhkgdpaaDoorPx10
namespace Go.Proofs.YtnbgffndhkgdpaaDoor.Pure
open Go.RowKit Go.Proofs.YtnbgffndhkgdpaaDoor.P Go.Proofs.YtnbgffndhkgdpaaDoorW.PrintWords Go.Proofs.YtnbgffndhkgdpaaDoorW.PrintLast Go.Proofs.YtnbgffndhkgdpaaDoorW.PrintMore
set_option linter.unusedVariables false
set_option linter.unusedSimpArgs false

/-! ### bytes as whole numbers -/
def il (l : List UInt8) : List Int := l.map fun b => (b.toNat : Int)
theorem il_app (l m : List UInt8) : il (l ++ m) = il l ++ il m := List.map_append
theorem il_one (c : UInt8) : il [c] = [(c.toNat : Int)] := rfl
theorem il_length (l : List UInt8) : (il l).length = l.length := List.length_map _
theorem strOf_il (l : List UInt8) : strOfNums (il l) = ⟨l.toArray⟩ := by
  refine ba_ext ?_
  rw [strOfNums_data, il, List.map_map, mk_data]
  conv => rhs; rw [← List.map_id l]
  apply List.map_congr_left; intro a _; simp

/-! ### small letters -/
theorem lowB_toNat (c : UInt8) : ((lowB c).toNat : Int) = if 65 ≤ (c.toNat : Int) ∧ (c.toNat : Int) ≤ 90 then ((c.toNat : Int) + 32) % 256 else (c.toNat : Int) := by
  have := all_bytes (p := fun n => ((lowB (UInt8.ofNat n)).toNat : Int) = if 65 ≤ (n : Int) ∧ (n : Int) ≤ 90 then ((n : Int) + 32) % 256 else (n : Int)) (by decide +kernel) c
  simpa using this
theorem lowB_idem (c : UInt8) : lowB (lowB c) = lowB c := by
  have := all_bytes (p := fun n => lowB (lowB (UInt8.ofNat n)) = lowB (UInt8.ofNat n)) (by decide +kernel) c
  simpa using this
def lowS (l : List UInt8) : List UInt8 := l.map lowB
theorem lowS_length (l : List UInt8) : (lowS l).length = l.length := List.length_map _
theorem lowS_idem (l : List UInt8) : lowS (lowS l) = lowS l := by
  unfold lowS; rw [List.map_map]; apply List.map_congr_left; intro c _; exact lowB_idem c
theorem lower_sign (s : ByteArray) (hs : s.size ≤ 4611686018427387904) : sign_Lower.f s = some ⟨(lowS s.data.toList).toArray⟩ := by
  unfold sign_Lower.f; rw [if_pos (by omega)]; rfl
theorem lower_ref_loop (s : ByteArray) (hs : s.size ≤ 140737488351232) (l : List UInt8) : ∀ i m, Sfx s i l → m.length + l.length = s.size → Ev (fun k => pantryref01_Lower.l0 k s (il m) i) ⟨(m ++ lowS l).toArray⟩ := by
  induction l with
  | nil =>
    intro i m h hm
    refine ev_one fun k => ?_
    simp only [pantryref01_Lower.l0]; rw [if_neg h.stop, strOf_il]; simp [lowS]
  | cons c l ih =>
    intro i m h hm
    simp at hm
    have hI := ih (i + 1) (m ++ [lowB c]) h.next (by simp; omega)
    refine ev_to _ (ev_rw hI (by simp [lowS])) fun k => ?_
    have hc := lowB_toNat c
    simp only [pantryref01_Lower.l0]; rw [if_pos h.lt, if_pos h.ge, h.bt, h.wrap (by omega), il_app, il_one, hc]
    by_cases h1 : (c.toNat : Int) ≥ 65
    · rw [if_pos h1]
      by_cases h2 : (c.toNat : Int) ≤ 90
      · rw [if_pos h2, if_pos (by rw [il_length]; omega), if_pos ⟨h1, h2⟩]
      · rw [if_neg h2, if_pos (by rw [il_length]; omega), if_neg (fun x => h2 x.2)]
    · rw [if_neg h1, if_pos (by rw [il_length]; omega), if_neg (fun x => h1 x.1)]
theorem lower_ref (s : ByteArray) (hs : s.size ≤ 140737488351232) : Ev (fun k => pantryref01_Lower.f k s) ⟨(lowS s.data.toList).toArray⟩ :=
  lower_ref_loop s hs _ 0 [] (Sfx.start s) (by rw [sz]; simp)

end Go.Proofs.YtnbgffndhkgdpaaDoor.Pure
