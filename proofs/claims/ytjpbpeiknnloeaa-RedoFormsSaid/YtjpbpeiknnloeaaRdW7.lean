/-
What '(*Redo).Do' does.
-/
import Derived.Test.YtjpbpeiknnloeaaRdW6
namespace Go.Proofs.Ytjpbpeiknnloeaa.Dk
open Go.RowKit Go.Maps Go.Proofs.YtjpbpeiknnloeaaW.PrintWords Go.Proofs.YtjpbpeiknnloeaaW.PrintLast Go.Proofs.YtjpbpeiknnloeaaW.PrintMore
set_option linter.unusedVariables false
set_option linter.unusedSimpArgs false

section
variable {w : World} {L : DL} {D : PD} {q : Nat} {br : Bool} {S : Nat → Prop}
/-- What 'Do' comes to. -/
def DoTo (w : World) (L : DL) (q : Nat) (r : Int × PD × Bool) (e : Ending) (w' : World) : Prop :=
  e = .returned (.int .i64 r.1) ∧ IsDisk w' L r.2.1 ∧ IsRedo w' q L r.2.2 ∧ Only (RS L q) w w'
theorem Do_broken (hd : IsDisk w L D) (hr : IsRedo w q L true) (A : Option Addr) (n c : Nat) :
    Calls Try.prog 12 #[.pointer (some ⟨q, 0, none⟩), .slice A n c] w (DoTo w L q (13, D, true)) := by
  have c1 := hr.c1
  have HD := Fact.mk hd
  have HR := Fact.mk hr
  clear hd hr
  go_enter Try.func12, Try.ntmps12
  go_wp2_with fail
  go_ret
  exact ⟨rfl, HD.out, HR.out, Only.refl _ _⟩
theorem Do_wrong (hd : IsDisk w L D) (hr : IsRedo w q L false) (A : Option Addr) (c : Nat) (l : List Ch) (hl : Chs S w A l) (h : rightOf ((D.n : Int) - 100) l = false) :
    Calls Try.prog 12 #[.pointer (some ⟨q, 0, none⟩), .slice A l.length c] w (DoTo w L q (10, D, false)) := by
  have c1 := hr.c1
  have HD := Fact.mk hd
  have HR := Fact.mk hr
  have HT := Fact.mk (right_any hd hr A c l hl)
  rw [h] at HT
  clear hd hr hl h
  go_enter Try.func12, Try.ntmps12
  go_wp2_with fail
  refine HT.out.mono ?_
  rintro e w1 ⟨rfl, b1⟩
  have B1 := Fact.mk b1
  clear b1
  go_wp2_with fail
  go_ret
  exact ⟨rfl, HD.out.below B1.out, HR.out.only (Only.of_below B1.out (fun _ => False)) (fun h => h), Only.of_below B1.out _⟩
end
end Go.Proofs.Ytjpbpeiknnloeaa.Dk
