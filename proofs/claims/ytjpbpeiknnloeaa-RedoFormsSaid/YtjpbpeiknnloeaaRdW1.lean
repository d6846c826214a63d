/-
What the journal's small functions do: Len, there, Broken, full, Read.
-/
import Derived.Test.YtjpbpeiknnloeaaRd
namespace Go.Proofs.Ytjpbpeiknnloeaa.Dk
open Go.RowKit Go.Maps Go.Proofs.YtjpbpeiknnloeaaW.PrintWords Go.Proofs.YtjpbpeiknnloeaaW.PrintLast Go.Proofs.YtjpbpeiknnloeaaW.PrintMore
set_option linter.unusedVariables false
set_option linter.unusedSimpArgs false

section
variable {w : World} {L : DL} {D : PD} {q : Nat} {br : Bool}
theorem RLen_any (hd : IsDisk w L D) (hr : IsRedo w q L br) :
    Calls Try.prog 20 #[.pointer (some ⟨q, 0, none⟩)] w fun e w' => e = .returned (.int .i64 ((D.n : Int) - 100)) ∧ w = w' := by
  have c0 := hr.c0
  have hn := hd.good.most
  have HL := Fact.mk (Len_any hd)
  clear hr hd
  go_enter Try.func20, Try.ntmps20
  go_wp2_with (go_at_call 22; refine HL.out.mono ?_; rintro e w' ⟨rfl, rfl⟩)
  go_ret
  exact ⟨rfl, rfl⟩
theorem Rthere_any (hd : IsDisk w L D) (hr : IsRedo w q L br) (i : Int) :
    Calls Try.prog 32 #[.pointer (some ⟨q, 0, none⟩), .int .i64 i] w fun e w' => e = .returned (.bool (decide (0 ≤ i ∧ i < (D.n : Int) - 100))) ∧ w = w' := by
  have HL := Fact.mk (RLen_any hd hr)
  clear hr hd
  go_enter Try.func32, Try.ntmps32
  go_wp2_with (go_at_call 20; refine HL.out.mono ?_; rintro e w' ⟨rfl, rfl⟩)
  all_goals
    go_ret
    refine ⟨ret_bool ?_, rfl⟩
    simp
    try omega
theorem Broken_any (hr : IsRedo w q L br) :
    Calls Try.prog 17 #[.pointer (some ⟨q, 0, none⟩)] w fun e w' => e = .returned (.bool br) ∧ w = w' := by
  have c1 := hr.c1
  clear hr
  go_enter Try.func17, Try.ntmps17
  go_wp2
  go_ret
  exact ⟨rfl, rfl⟩
end
/-- 'full(b)': a new sector's bytes. -/
theorem full_any (A : Option Addr) (c : Nat) (b : List Int) (w : World) (hb : b.length ≤ 64) (hr : ReadB w A b.length b) :
    Calls Try.prog 34 #[.slice A b.length c] w fun e w' => e = .returned (.slice (some ⟨w.heap.size, 0, none⟩) 64 64) ∧ w' = w.alloc (.cells ((pad b).map (Value.int .u8)).toArray 5) := by
  have hcp : ∀ (ty : TypeId), (Builtin.copy_ #[27, 27] ty #[.slice (some ⟨w.heap.size, 0, none⟩) 64 64, .slice A b.length c]).run Try.prog (w.alloc (.cells zc 5)) = .ok (.int .i64 (b.length : Int)) (w.alloc (.cells ((pad b).map (Value.int .u8)).toArray 5)) := fun ty => copy_to w zc rfl _ A c b ty hb hr
  have hmk := made64
  clear hr
  go_enter Try.func34, Try.ntmps34
  go_wp2
  go_ret
  exact ⟨rfl, rfl⟩
section
variable {w : World} {L : DL} {D : PD} {q : Nat} {br : Bool}
theorem RRead_no (hd : IsDisk w L D) (hr : IsRedo w q L br) (i : Int) (h : ¬ (0 ≤ i ∧ i < (D.n : Int) - 100)) :
    Calls Try.prog 21 #[.pointer (some ⟨q, 0, none⟩), .int .i64 i] w (ReadsTo w ([], 11)) := by
  have HT := Fact.mk (Rthere_any hd hr i)
  rw [decide_eq_false h] at HT
  clear hd hr h
  go_enter Try.func21, Try.ntmps21
  go_wp2_with (go_at_call 32; refine HT.out.mono ?_; rintro e w' ⟨rfl, rfl⟩)
  go_ret2
  exact reads_err w 11
theorem RRead_broken (hd : IsDisk w L D) (hr : IsRedo w q L true) (i : Int) (h : 0 ≤ i ∧ i < (D.n : Int) - 100) :
    Calls Try.prog 21 #[.pointer (some ⟨q, 0, none⟩), .int .i64 i] w (ReadsTo w ([], 13)) := by
  have HT := Fact.mk (Rthere_any hd hr i)
  rw [decide_eq_true h] at HT
  have c1 := hr.c1
  clear hd hr h
  go_enter Try.func21, Try.ntmps21
  go_wp2_with (go_at_call 32; refine HT.out.mono ?_; rintro e w' ⟨rfl, rfl⟩)
  go_ret2
  exact reads_err w 13
theorem RRead_sound (hd : IsDisk w L D) (hr : IsRedo w q L false) (i : Int) (h : 0 ≤ i ∧ i < (D.n : Int) - 100) :
    Calls Try.prog 21 #[.pointer (some ⟨q, 0, none⟩), .int .i64 i] w (ReadsTo w (D.read (100 + i))) := by
  have HT := Fact.mk (Rthere_any hd hr i)
  rw [decide_eq_true h] at HT
  have c0 := hr.c0
  have c1 := hr.c1
  have hn := hd.good.most
  obtain ⟨h1, h2⟩ := h
  have HR := Fact.mk (Read_any hd (100 + i))
  clear hd hr
  go_enter Try.func21, Try.ntmps21
  go_wp2_with (first | (go_at_call 32; refine HT.out.mono ?_; rintro e w' ⟨rfl, rfl⟩) | (go_at_call 33; refine HR.out.mono ?_; rintro e w' ⟨v, rfl, ho, hb⟩; have HO := Fact.mk ho; have HB := Fact.mk hb; clear ho hb))
  go_ret2
  exact ⟨v, rfl, HO.out, HB.out⟩
/-- '(*Redo).Read'. -/
theorem RRead_any (hd : IsDisk w L D) (hr : IsRedo w q L br) (i : Int) :
    Calls Try.prog 21 #[.pointer (some ⟨q, 0, none⟩), .int .i64 i] w (ReadsTo w (D.rread br i)) := by
  unfold PD.rread
  by_cases h : 0 ≤ i ∧ i < (D.n : Int) - 100
  · rw [if_neg (fun hh => hh h)]
    cases br with
    | true => rw [if_pos rfl]; exact RRead_broken hd hr i h
    | false => rw [if_neg Bool.false_ne_true]; exact RRead_sound hd hr i h
  · rw [if_pos h]; exact RRead_no hd hr i h
end
end Go.Proofs.Ytjpbpeiknnloeaa.Dk
