/-
What the laws' 'whole' does: all data sectors one behind the other.
-/
import Derived.Test.YtjpbpeiknnloeaaRdW11
namespace Go.Proofs.Ytjpbpeiknnloeaa.Dk
open Go.RowKit Go.Maps Go.Proofs.YtjpbpeiknnloeaaW.PrintWords Go.Proofs.YtjpbpeiknnloeaaW.PrintLast Go.Proofs.YtjpbpeiknnloeaaW.PrintMore
set_option linter.unusedVariables false
set_option linter.unusedSimpArgs false

/-- The first j data sectors. -/
def bytesTo (f : Nat → List Int) (j : Nat) : List Int := (List.range j).flatMap f
theorem bytesTo_step (f : Nat → List Int) (j : Nat) : bytesTo f (j + 1) = bytesTo f j ++ f j := by
  unfold bytesTo
  rw [List.range_succ, List.flatMap_append]
  simp
theorem bytesTo_length {f : Nat → List Int} {j : Nat} (h : ∀ i, i < j → (f i).length = 64) : (bytesTo f j).length = 64 * j := by
  induction j with
  | zero => rfl
  | succ j ih =>
    rw [bytesTo_step, List.length_append, ih (fun i hi => h i (by omega)), h j (by omega)]
    omega
section
variable {w : World} {L : DL} {D : PD} {q : Nat} {br : Bool}
set_option maxHeartbeats 1000000 in
set_option maxRecDepth 100000 in
theorem whole_any (hd : IsDisk w L D) (hr : IsRedo w q L br) (f : Nat → List Int) (m : Nat) (hm : (D.n : Int) - 100 = m) (hf : ∀ i, i < m → D.rread br (i : Int) = (f i, 0) ∧ (f i).length = 64) :
    Calls Try.prog 13 #[.pointer (some ⟨q, 0, none⟩)] w fun e w' => ∃ v, e = .returned v ∧ OwnB w' w.heap.size (fun k => w.heap.size ≤ k) v (bytesTo f m) ∧ Below w.heap.size w w' := by
  have HD := Fact.mk hd
  have HR := Fact.mk hr
  have HF := Fact.mk hf
  have hn := hd.good.most
  have HL := Fact.mk (RLen_any hd hr)
  have HQ := Fact.mk (hr.apart hd)
  rw [hm] at HL
  have I0 : Fact (OwnB w w.heap.size (fun k => w.heap.size ≤ k) (.slice none 0 0) (bytesTo f 0)) := ⟨Kd.R_nil _ _ _ _ _⟩
  clear hd hr hf
  go_enter Try.func13, Try.ntmps13
  go_wp2_with fail
  refine HL.out.mono ?_
  rintro e w0 ⟨rfl, rfl⟩
  clear HL
  go_wp2_with fail
  go_loopw [3, 9] (fun v3 v9 wr => ∃ j : Nat, v9 = .int .i64 (j : Int) ∧ j ≤ m ∧ Fact (OwnB wr w.heap.size (fun k => w.heap.size ≤ k) v3 (bytesTo f j)) ∧ Fact (Below w.heap.size w wr)) (fun _ v _ => m - (intOf v).toNat)
  case atStart => exact ⟨0, rfl, Nat.zero_le _, I0, ⟨Below.refl _ _⟩⟩
  case round =>
    obtain ⟨j, rfl, hj, R1, R2⟩ := hrel
    clear I0
    obtain ⟨A3, c3, rfl, -, -⟩ := Kd.R_reads R1.out
    by_cases hlt : j < m
    · have hlt2 : (j : Int) < (m : Int) := by omega
      obtain ⟨hf1, hf2⟩ := HF.out j hlt
      have HRead := Fact.mk (RRead_any (HD.out.below R2.out) (HR.out.only (Only.of_below R2.out L.S) HQ.out) (j : Int))
      have hlen : (bytesTo f j).length = 64 * j := bytesTo_length (fun i hi => (HF.out i (by omega)).2)
      rw [hf1] at HRead
      rw [hlen] at R1 ⊢
      have hbase : w.heap.size ≤ wr.heap.size := R2.out.size
      have HS := Fact.mk (bytesTo_step f j)
      clear hf1 hlen
      generalize f j = b at *
      generalize bytesTo f j = bj at *
      go_wp2_with fail
      refine HRead.out.mono ?_
      rintro e w3 ⟨v, rfl, r3, b3⟩
      obtain ⟨A9, c9, rfl, hc9, hrd⟩ := Kd.R_reads r3
      rw [hf2] at hrd hc9 ⊢
      have R9 := Fact.mk hrd
      have B3 := Fact.mk (next_new R2.out b3)
      have R3 := Fact.mk (Kd.R_below (Kd.R_mono R1.out (fun _ h => h)) b3)
      replace hf2 := Fact.mk hf2
      clear r3 b3 hrd HRead R1
      go_wp2_with ((with_reducible refine gate_builtin (b := .append) (xs := #[.tmp 20, .tmp 21]) rfl ?_); at_builtin; refine Fact.out (p := _) ?_)
      refine Fact.mk ?_
      refine Kd.R_append_rows (Kd.int .u8) (w0 := w) w.heap.size rfl (.tmp 20) (.tmp 21) 27 5 (.int .u8 0) 1 rfl Try.underlying27 info_u8 rfl (by decide) (by omega) (.slice A3 (64 * j) c3) bj b A9 64 c9 (fun k => w.heap.size ≤ k) (fun _ => False) rfl rfl ?aO ?aR (fun _ _ h => h) (fun _ h => h.elim) ?aF ?aB ?aS ?aL ?_
      case aO => exact R3.out
      case aR => exact R9.out
      case aF => intro k hk; have := B3.out.size; omega
      case aB => exact B3.out
      case aS => exact B3.out.size
      case aL => have h1 := (own_reads_ R3.out).1; omega
      intro v1 w5 ho hb hg hat
      have HO := Fact.mk ho
      have HB5 := Fact.mk hb
      clear ho hb hg hat
      go_wp2_with fail
      exact ⟨⟨j + 1, by go_num, by omega, ⟨by rw [HS.out]; exact HO.out⟩, HB5⟩, by simp [intOf]; omega⟩
    · have he : j = m := by omega
      subst he
      have hlt2 : ¬ ((j : Int) < (j : Int)) := by omega
      go_wp2_with fail
      go_ret
      exact ⟨_, rfl, R1.out, R2.out⟩
end
end Go.Proofs.Ytjpbpeiknnloeaa.Dk
