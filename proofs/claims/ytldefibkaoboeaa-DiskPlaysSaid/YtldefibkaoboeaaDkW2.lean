/-
What the disk's functions that make a disk, write to its maps and read a sector do.
-/
import Derived.Test.YtldefibkaoboeaaDkW1
import Derived.Laws.MakeOwn
import Derived.Laws.IdiomCopy
import Derived.WalkSpells
import Derived.Outline
import Derived.KernelRfl
namespace Go.Proofs.Ytldefibkaoboeaa.Dk
open Go.RowKit Go.Maps
set_option linter.unusedVariables false
set_option linter.unusedSimpArgs false

def zc : Array Value := (List.replicate 64 (Value.int .u8 0)).toArray
def zsec : Value := .agg zc
theorem zc_size : zc.size = 64 := by simp [zc]
theorem info_sec : (Try.prog.info? 65).map (fun i => (i.zero, i.size, i.bytes)) = some (some zsec, 64, 64) := by kernel_rfl
theorem made_sec (n : Nat) (h1 : n ≤ 4096) : ∀ W : World, (Instr.makeSlice 58 (.int .i64 (n : Int)) (.int .i64 (n : Int))).run Try.prog W = .ok (.slice (some ⟨W.heap.size, 0, none⟩) n n) (W.alloc (.cells (madeCells zc (n * 64)) 65)) := by
  intro W
  obtain ⟨i0, hi, hzz⟩ := Option.map_eq_some_iff.1 info_sec
  simp only [Prod.mk.injEq] at hzz
  obtain ⟨hz0, hz1, hz2⟩ := hzz
  have := run_make (P := Try.prog) W 58 65 i0 zsec Try.underlying58 hi hz0 .i64 .i64 (n : Int) (n : Int) (by omega) (Int.le_refl _) (by rw [hz2]; omega) (by omega)
  rw [hz1, show zsec.cells = zc from rfl] at this
  simpa using this
theorem stcells_new (n : Nat) : StCells (madeCells zc (n * 64)) n (PD.new n).st := by
  have hz := zc_size
  refine ⟨by rw [size_madeCells]; omega, fun i j hi hj => ?_⟩
  have hlt : 64 * i + j < n * 64 := by omega
  have h1 : (madeCells zc (n * 64))[64 * i + j]? = some (zc[(64 * i + j) % zc.size]!) := by
    simp [madeCells, hlt]
  have h2 : (64 * i + j) % zc.size = j := by rw [hz]; omega
  have h3 : zc[j]! = Value.int .u8 0 := by
    rw [getElem!_pos zc j (by rw [hz]; exact hj)]
    show (List.replicate 64 (Value.int .u8 0)).toArray[j]'(by simpa using hj) = _
    rw [List.getElem_toArray, List.getElem_replicate]
  rw [h1, h2, h3]
  have h4 : ((PD.new n).st i).getD j 0 = 0 := by
    show (List.replicate 64 (0 : Int)).getD j 0 = 0
    rw [List.getD_eq_getElem?_getD, List.getElem?_replicate, if_pos hj]; rfl
  rw [h4]
theorem New_bad {w : World} {n : Int} (h : n < 1 ∨ 4096 < n) :
    Calls Try.prog 10 #[.int .i64 n] w fun e w' => e = .returned (.pointer none) ∧ w = w' := by
  by_cases h1 : n < 1
  · clear h
    go_enter Try.func10, Try.ntmps10
    go_wp2
    go_ret
    exact ⟨rfl, rfl⟩
  · have h2 : 4096 < n := by omega
    clear h
    go_enter Try.func10, Try.ntmps10
    go_wp2
    go_ret
    exact ⟨rfl, rfl⟩
theorem heap_allocs4 (w : World) (a b c d : Obj) : ((((w.alloc a).alloc b).alloc c).alloc d).heap = (((w.heap.push a).push b).push c).push d := rfl
theorem New_good {w : World} {n : Nat} (h1 : 1 ≤ n) (h2 : n ≤ 4096) :
    Calls Try.prog 10 #[.int .i64 (n : Int)] w fun e w' => ∃ L : DL, e = .returned (.pointer (some ⟨L.p, 0, none⟩)) ∧ IsDisk w' L (PD.new n) ∧ (∀ k, L.S k → w.heap.size ≤ k) ∧ Below w.heap.size w w' := by
  have hm := made_sec n h2
  have hmm := @run_makeMap Try.prog
  go_enter Try.func10, Try.ntmps10
  go_wp2
  go_ret
  refine ⟨⟨w.heap.size + 3, w.heap.size, w.heap.size + 1, w.heap.size + 2⟩, ?_, ?_, ?_, ?_⟩
  · rfl
  · have n0 : ∀ (W : World) (o : Obj), (W.alloc o).heap[W.heap.size]? = some o := fun W o => heap_alloc_new W o
    have g3 : ∀ o1 o2 o3 o4 : Obj, ((((w.alloc o1).alloc o2).alloc o3).alloc o4).heap[w.heap.size + 3]? = some o4 := fun o1 o2 o3 o4 => by have := n0 (((w.alloc o1).alloc o2).alloc o3) o4; simpa using this
    have g2 : ∀ o1 o2 o3 o4 : Obj, ((((w.alloc o1).alloc o2).alloc o3).alloc o4).heap[w.heap.size + 2]? = some o3 := fun o1 o2 o3 o4 => by rw [Below.heap_alloc _ _ _ (by simp)]; have := n0 ((w.alloc o1).alloc o2) o3; simpa using this
    have g1 : ∀ o1 o2 o3 o4 : Obj, ((((w.alloc o1).alloc o2).alloc o3).alloc o4).heap[w.heap.size + 1]? = some o2 := fun o1 o2 o3 o4 => by rw [Below.heap_alloc _ _ _ (by simp), Below.heap_alloc _ _ _ (by simp)]; have := n0 (w.alloc o1) o2; simpa using this
    have g0 : ∀ o1 o2 o3 o4 : Obj, ((((w.alloc o1).alloc o2).alloc o3).alloc o4).heap[w.heap.size]? = some o1 := fun o1 o2 o3 o4 => by rw [Below.heap_alloc _ _ _ (by simp; omega), Below.heap_alloc _ _ _ (by simp; omega), Below.heap_alloc _ _ _ (by simp)]; exact n0 w o1
    have m0 : ∀ W : World, ∀ b, W.heap[b]? = some (.map #[] 0) → IntMap Try.prog W b (fun _ => none) n := fun W b hb => IntMap.empty _ W b n hb
    refine ⟨PD.Good.new h1 h2, g3 _ _ _ _, ⟨_, g0 _ _ _ _, stcells_new n⟩, ?_, ⟨fun _ => none, ?_, fun _ => rfl⟩, by simp, by simp⟩
    · exact m0 _ _ (g1 _ _ _ _)
    · exact m0 _ _ (g2 _ _ _ _)
  · rintro k (rfl | rfl | rfl | rfl) <;> simp
  · exact ((((Below.refl _ _).alloc (Nat.le_refl _) _).alloc (by simp) _).alloc (by simp; omega) _).alloc (by simp; omega) _
end Go.Proofs.Ytldefibkaoboeaa.Dk
