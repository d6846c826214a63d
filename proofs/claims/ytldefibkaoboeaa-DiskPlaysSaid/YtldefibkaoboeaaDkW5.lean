/-
What '(*Disk).Pending' does: the sectors that are pending, in order.
-/
import Derived.Test.YtldefibkaoboeaaDkW4
import Derived.Test.YtldefibkaoboeaaDkShelf
import Derived.Shelf.SlIterI.Nil
import Derived.Shelf.SortM.Plain
import Derived.Shelf.SortM.SortNone
namespace Go.Proofs.Ytldefibkaoboeaa.Dk
open Go.RowKit Go.Maps Go.Sort Go.Proofs.YtldefibkaoboeaaW.PrintWords Go.Proofs.YtldefibkaoboeaaW.PrintLast Go.Proofs.YtldefibkaoboeaaW.PrintMore
set_option linter.unusedVariables false
set_option linter.unusedSimpArgs false

theorem sorts_in (m : Nat) : AnyZI.SortsIn Try.prog Try.sortedD_ren Fence.wide m :=
  ⟨fun blk off cap ss W hH hblk hsz => callsIn_wide.2 (AnyM.slices_Sort_int Try.sortD blk off cap ss W hH hblk hsz),
   fun p cap W => callsIn_wide.2 (AnyM.slices_Sort_int_none Try.sortD p cap W)⟩
theorem Keys_any (b : Nat) (w : World) : Calls Try.prog 35 #[.map (some b)] w fun e w' => e = .returned (.func (.func 40) #[] #[.pointer (some ⟨w.heap.size, 0, none⟩)]) ∧ w' = w.alloc (.cells #[.map (some b)] 59) := by
  have h : CallsIn Fence.wide 5 Try.prog 35 #[.map (some b)] w fun e w' => e = .returned (.func (.func 40) #[] #[.pointer (some ⟨w.heap.size, 0, none⟩)]) ∧ w' = w.alloc (.cells #[.map (some b)] 59) :=
    AnyZI.keys_in Try.keysD Fence.wide 5 trivial rfl (some b) w
  exact callsIn_wide.1 h
set_option maxHeartbeats 1000000 in
theorem Sorted_any {w : World} {b N : Nat} {f : Nat → Option Value} (h : IntMap Try.prog w b f N) (hN : N ≤ 4096) :
    Calls Try.prog 34 #[.func (.func 40) #[] #[.pointer (some ⟨w.heap.size, 0, none⟩)]] (w.alloc (.cells #[.map (some b)] 59)) fun e w' => ∃ v : Value, e = .returned v ∧
      w'.ownsRow (w.heap.size + 1) 3 1 v (ikeys f N).length (nums .i64 (ikeys f N)) ∧ Below (w.heap.size + 1) (w.alloc (.cells #[.map (some b)] 59)) w' := by
  obtain ⟨D0, hown, hsz, hperm, _⟩ := h.tight int_t
  have hle : Maps.size D0 ≤ N := by
    rw [hsz]
    have := List.length_filter_le (fun i => (f i).isSome) (List.range N)
    rw [List.length_range] at this; exact this
  have hbl := hown.lt
  have hseq : SeqGives Fence.wide 2 Try.prog 40 #[.pointer (some ⟨w.heap.size, 0, none⟩)] encZ (fun ss => ss.Perm (intKeys D0)) (Maps.size D0) (w.alloc (.cells #[.map (some b)] 59)) :=
    AnyZI.keys_gives (ρ := Try.keysD_ren) { Try.keysD with } Fence.wide _ trivial rfl (by omega) w.heap.size b N D0 _ (by simp) (by simp) (by
      obtain ⟨es, clock, hb, Ft, hs, hD⟩ := hown
      exact ⟨es, clock, (Below.heap_alloc _ _ b hbl).trans hb, Ft, hs, hD⟩)
  have cS := AnyZI.sorted_in Try.sortedD Fence.wide 5 trivial trivial trivial trivial rfl (by omega) (sorts_in _) (enters_of Try.func39 (by kernel_rfl) rfl) 40 #[.pointer (some ⟨w.heap.size, 0, none⟩)] trivial (enters_of Try.func40 (by kernel_rfl) rfl) _ _ (by unfold maxLen; omega) (by omega) _ hseq
  change CallsIn _ _ Try.prog 34 _ _ _ at cS
  refine (callsIn_wide.1 cS).mono ?_
  rintro e w' ⟨v, ss, rfl, hS, hrow, hnil, hb⟩
  have e1 : ss.mergeSort (fun x y => decide (x ≤ y)) = ikeys f N := by
    have := mergeSort_of_perm_i (hS.trans hperm.symm)
    rw [ikeys_sorted] at this
    exact this
  have e2 : ss.length = (ikeys f N).length := (hS.trans hperm.symm).length_eq
  rw [e1, e2] at hrow
  refine ⟨v, rfl, ?_, ?_⟩
  · have h3 : Try.sortedD_ren.t 26 = 3 := by kernel_rfl
    have hs : (w.alloc (.cells #[.map (some b)] 59)).heap.size = w.heap.size + 1 := by simp
    rw [h3, hs] at hrow
    exact hrow
  · simpa using hb
/-- A row of whole numbers of one's own. -/
abbrev OwnI (w : World) (base : Nat) (ok : Nat → Prop) (v : Value) (l : List Int) : Prop := Kd.R (Kd.int .i64) 3 w base ok v l
def PD.ikeys (D : PD) : List Int := D.keys.map fun i : Nat => (i : Int)
theorem ikeys_eq (D : PD) : ikeys (fun i => (D.pe i).map secV) D.n = D.ikeys := by
  unfold ikeys PD.ikeys keysOf PD.keys
  congr 1
  apply List.filter_congr
  intro i _
  simp
/-- '(*Disk).Pending'. -/
theorem Pending_any {w : World} {L : DL} {D : PD} (h : IsDisk w L D) :
    Calls Try.prog 15 #[.pointer (some ⟨L.p, 0, none⟩)] w fun e w' => ∃ v, e = .returned v ∧ OwnI w' w.heap.size (fun k => w.heap.size ≤ k) v D.ikeys ∧ Below w.heap.size w w' := by
  have c1 := h.c1
  have HS := Fact.mk (Sorted_any h.pend h.good.most)
  rw [ikeys_eq] at HS
  clear h
  go_enter Try.func15, Try.ntmps15
  go_wp2_with (first | (go_at_call 35; refine (Keys_any _ _).mono ?_; rintro e w' ⟨rfl, rfl⟩) | (go_at_call 34; refine HS.out.mono ?_; rintro e w' ⟨v, rfl, ho, hb⟩; have HO := Fact.mk ho; have HB := Fact.mk hb; clear ho hb))
  go_ret
  refine ⟨v, rfl, ?_, ?_⟩
  · exact Kd.R_lower (Kd.R_of_own (h1 := fun _ => rfl) HO.out (fun k hk => by have := own_base HO.out k hk; omega)) (by omega)
  · exact ((Below.refl _ _).alloc (Nat.le_refl _) _).trans (HB.out.mono (by omega))
end Go.Proofs.Ytldefibkaoboeaa.Dk
