/-
What '(*Disk).Crash' does.
-/
import Derived.Test.YtldefibkaoboeaaDkW6
namespace Go.Proofs.Ytldefibkaoboeaa.Dk
open Go.RowKit Go.Maps Go.Proofs.YtldefibkaoboeaaW.PrintWords Go.Proofs.YtldefibkaoboeaaW.PrintLast Go.Proofs.YtldefibkaoboeaaW.PrintMore
set_option linter.unusedVariables false
set_option linter.unusedSimpArgs false

/-- Bools that are read. -/
abbrev ReadBool (w : World) (A : Option Addr) (n : Nat) (l : List Bool) : Prop := Kd.C Kd.bool w A n l
theorem bool_cell {w : World} {A : Option Addr} {l : List Bool} (h : ReadBool w A l.length l) {k : Nat} (hk : k < l.length) : ∃ ad, A = some ad ∧ w.cell? (ad.add k) = some (.bool (l.getD k false)) := by
  obtain ⟨ad, e, hc⟩ := h.2.2 (by omega)
  obtain ⟨c, h1, h2, h3⟩ := hc k l[k] (List.getElem?_eq_getElem hk)
  refine ⟨ad, e, ?_⟩
  have h4 : l.getD k false = l[k] := by rw [List.getD_eq_getElem?_getD, List.getElem?_eq_getElem hk]; rfl
  have := h3 0 (.bool l[k]) (by rw [show c = [.bool l[k]] from h2]; rfl)
  rw [h4]
  simpa [Kd.bool, Kd.scalar] using this
theorem Crash1_any (W : World) (bx : Nat) (A : Option Addr) (c : Nat) (keep : List Bool) (hx : W.cell? ⟨bx, 0, none⟩ = some (.slice A keep.length c)) (hr : ReadBool W A keep.length keep) (k : Nat) :
    Calls Try.prog 33 #[.int .i64 (k : Int), .pointer (some ⟨bx, 0, none⟩)] W fun e W' => e = .returned (.bool (keep.getD k false)) ∧ W = W' := by
  by_cases hk : k < keep.length
  · obtain ⟨ad, rfl, hc⟩ := bool_cell hr hk
    have hk2 : (k : Int) < (keep.length : Int) := by omega
    clear hr
    generalize keep.getD k false = b at *
    generalize keep.length = n at *
    go_enter Try.func33, Try.ntmps33
    go_wp2
    go_ret
    exact ⟨rfl, rfl⟩
  · have hb : keep.getD k false = false := by rw [List.getD_eq_getElem?_getD, List.getElem?_eq_none (by omega)]; rfl
    rw [hb]
    clear hr hb
    generalize keep.length = n at *
    have hk2 : decide ((k : Int) < (n : Int)) = false := by simp; omega
    go_enter Try.func33, Try.ntmps33
    go_wp2
    go_ret
    exact ⟨rfl, rfl⟩
theorem IsDisk.crash {w : World} {L : DL} {D : PD} (h : IsDisk w L D) : IsDisk ((w.setCell ⟨L.p, 3, none⟩ (.int .i64 (-1))).setCell ⟨L.p, 4, none⟩ (.bool false)) L { D with left := -1, down := false } :=
  (h.setLeft (-1) (by omega) (by omega)).setDown false
/-- '(*Disk).Crash'. -/
theorem Crash_any {w : World} {L : DL} {D : PD} (h : IsDisk w L D) (A : Option Addr) (c : Nat) (keep : List Bool) (hr : ∀ W, Only L.S w W → ReadBool W A keep.length keep) :
    Calls Try.prog 14 #[.pointer (some ⟨L.p, 0, none⟩), .slice A keep.length c] w fun e w' => e = .returned (.tuple #[]) ∧ Now w L (D.crash keep) w' := by
  have hox := Only.alloc L.S w (.cells #[.slice A keep.length c] 32)
  have HS : Fact (Calls Try.prog 31 #[.pointer (some ⟨L.p, 0, none⟩), .func (.func 33) #[] #[.pointer (some ⟨w.heap.size, 0, none⟩)]] (w.alloc (.cells #[.slice A keep.length c] 32)) fun e w' => e = .returned (.tuple #[]) ∧ Now (w.alloc (.cells #[.slice A keep.length c] 32)) L (D.stand fun k => keep.getD k false) w') :=
    ⟨stand_any (h.alloc _) 33 #[.pointer (some ⟨w.heap.size, 0, none⟩)] (fun k => keep.getD k false) (enters_of Try.func33 (by kernel_rfl) rfl) (fun k W _ ho => Crash1_any W w.heap.size A c keep (by
      rw [World.cell?_of_block (w := w.alloc (.cells #[.slice A keep.length c] 32)) (ho.block w.heap.size (by simp) (fun hs => by have := h.lt _ hs; omega)), cell_of_row _ _ _ _ _ _ (heap_alloc_new w _)]; rfl) (hr W (hox.trans ho)) k)⟩
  have HO := Fact.mk hox
  clear h hr hox
  go_enter Try.func14, Try.ntmps14
  go_wp2_with (go_at_call 31; refine HS.out.mono ?_; rintro e w2 ⟨rfl, h2⟩; have H2 := Fact.mk h2; have c3 := h2.1.c3; have c4 := h2.1.c4; have f3 := h2.1.f 3; have f4 := h2.1.f 4; clear h2)
  go_end0
  exact ⟨rfl, H2.out.1.crash, (HO.out.trans H2.out.2).trans ((Only.setCell _ L.S_p _).trans (Only.setCell _ L.S_p _))⟩
end Go.Proofs.Ytldefibkaoboeaa.Dk
