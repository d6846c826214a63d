/-
Steps of a region that draws its order, each by a law about the operation alone: for frames that are too long for the walk's simp.
-/
import Derived.Test.YtldefibkaoboeaaDkMore
import Derived.Great.BuildSlice
namespace Go.Proofs.Ytldefibkaoboeaa.Dk
open Go.RowKit Go.Maps Go.Proofs.YtldefibkaoboeaaW.PrintWords Go.Proofs.YtldefibkaoboeaaW.PrintLast Go.Proofs.YtldefibkaoboeaaW.PrintMore
set_option linter.unusedVariables false
set_option linter.unusedSimpArgs false

theorem norml_ {P : Program} {ops : Array Oper} {rest : List Oper} {a a' : Act} {Q : Exit → Act → World → Prop} {W : World} (ha : a = a') (h : wpList P ops Q rest a' W) : wpList P ops Q rest a W := ha ▸ h
section
variable {P : Program} {oi : Oper} {ρ : Operand → Value} {v : Value}
theorem exec_move {x : Operand} (hop : oi.op = .move x ∨ oi.op = .assign x) (hx : ρ x = v) : ∀ w, (execOp ρ oi).run P w = .ok (.value v) w := by
  intro w
  unfold execOp
  rcases hop with hop | hop <;> simp [hop, hx]
theorem exec_slice {t : TypeId} {x : Operand} {lo hi mx : Option Operand} (hop : oi.op = .slice t x lo hi mx) (h : ∀ w, (Instr.sliceAt t (ρ x) (lo.map ρ) (hi.map ρ) (mx.map ρ)).run P w = .ok v w) : ∀ w, (execOp ρ oi).run P w = .ok (.value v) w := by
  intro w
  unfold execOp
  simp [hop, Sem.run_bind, h w, Result.andThen]
theorem exec_load {t : TypeId} {x : Operand} {w : World} (hop : oi.op = .load t x) (h : (Instr.loadAt t (ρ x)).run P w = .ok v w) : (execOp ρ oi).run P w = .ok (.value v) w := by
  unfold execOp
  simp [hop, Sem.run_bind, h, Result.andThen]
theorem exec_build {t : TypeId} {n : Nat} {parts : Array (Nat × Operand)} {w w1 : World} (hop : oi.op = .buildSlice t n parts) (h : (Instr.buildSlice t n (parts.map fun (i, x) => (i, ρ x))).run P w = .ok v w1) : (execOp ρ oi).run P w = .ok (.value v) w1 := by
  unfold execOp
  simp [hop, Sem.run_bind, h, Result.andThen]
theorem exec_build1 {t : TypeId} {x : Operand} {v' : Value} {w w1 : World} (hop : oi.op = .buildSlice t 1 #[(0, x)]) (hx : ρ x = v') (h : (Instr.buildSlice t 1 #[(0, v')]).run P w = .ok v w1) : (execOp ρ oi).run P w = .ok (.value v) w1 := by
  unfold execOp
  simp [hop, Sem.run_bind, hx, h, Result.andThen]
end
section
variable {P : Program} {oi : Oper} {rest : List Oper} {ops : Array Oper} {a : Act} {Q : Exit → Act → World → Prop} {w w1 : World} {v : Value}
theorem wpList_value (hg : oi.guard = none) (hrun : (execOp a.eval oi).run P w = .ok (.value v) w1) (h : wpList P ops Q rest (a.put oi.dst v) w1) : wpList P ops Q (oi :: rest) a w :=
  wpList_plain hg fun K hK => by unfold Oper.wp; rw [hrun]; exact hK _ _ h
theorem wpList_skip (hg : oi.guard = none) (hrun : (execOp a.eval oi).run P w = .ok .skip w1) (h : wpList P ops Q rest (a.put oi.dst undef) w1) : wpList P ops Q (oi :: rest) a w :=
  wpList_plain hg fun K hK => by unfold Oper.wp; rw [hrun]; exact hK _ _ h
theorem wpList_skip0 (hg : oi.guard = none) (hN : oi.dst = none) (hrun : (execOp a.eval oi).run P w = .ok .skip w1) (h : wpList P ops Q rest a w1) : wpList P ops Q (oi :: rest) a w :=
  wpList_skip hg hrun (by rw [hN]; exact h)
theorem gate_op (op : Op) (_ho : oi.op = op) (h : wpList P ops Q (oi :: rest) a w) : wpList P ops Q (oi :: rest) a w := h
theorem exec_index {ρ : Operand → Value} {t : TypeId} {x ix : Operand} (hop : oi.op = .indexAddr t x ix) (h : (Instr.indexAt t (ρ x) (ρ ix)).run P w = .ok v w) : (execOp ρ oi).run P w = .ok (.value v) w := by
  unfold execOp
  simp [hop, Sem.run_bind, h, Result.andThen]
theorem exec_store {ρ : Operand → Value} {t : TypeId} {x y : Operand} (hop : oi.op = .store t x y) (h : (Instr.storeAt t (ρ x) (ρ y)).run P w = .ok () w1) : (execOp ρ oi).run P w = .ok .skip w1 := by
  unfold execOp
  simp [hop, Sem.run_bind, h, Result.andThen]
theorem exec_store2 {ρ : Operand → Value} {t : TypeId} {x y : Operand} {vx vy : Value} (hop : oi.op = .store t x y) (hx : ρ x = vx) (hy : ρ y = vy) (h : (Instr.storeAt t vx vy).run P w = .ok () w1) : (execOp ρ oi).run P w = .ok .skip w1 := exec_store hop (by rw [hx, hy]; exact h)
end
theorem index_first (W : World) (g n c : Nat) : (Instr.indexAt 31 (.slice (some ⟨g, 0, none⟩) (n + 1) c) (.int .i64 0)).run Try.prog W = .ok (.pointer (some ⟨g, 0, none⟩)) W := by
  have hu := Try.underlying31
  go_simp
  try rfl
theorem store_first (W : World) (g : Nat) (u : Value) (A : Option Addr) (n c : Nat) (hc : W.cell? ⟨g, 0, none⟩ = some u) (hf : W.frozen? ⟨g, 0, none⟩ = false) : (Instr.storeAt 22 (.pointer (some ⟨g, 0, none⟩)) (.slice A n c)).run Try.prog W = .ok () (W.setCell ⟨g, 0, none⟩ (.slice A n c)) := by
  have hu := Try.underlying22
  go_simp
theorem info_sl1 : (Try.prog.info? 22).map (fun i => (i.zero, i.size)) = some (some (.slice none 0 0), 1) := by kernel_rfl
/-- A slice literal of one row. -/
theorem build_row (W : World) (A : Option Addr) (n c : Nat) : (Instr.buildSlice 31 1 #[(0, .slice A n c)]).run Try.prog W = .ok (.slice (some ⟨W.heap.size, 0, none⟩) 1 1) (W.alloc (.cells #[.slice A n c] 22)) := by
  obtain ⟨ie, hie, hzz⟩ := Option.map_eq_some_iff.1 info_sl1
  simp only [Prod.mk.injEq] at hzz
  obtain ⟨hz, hs⟩ := hzz
  refine run_buildSlice W 31 22 1 _ #[.slice A n c] ie (.slice none 0 0) Try.underlying31 hie hz (by rw [hs]; decide) (by rw [hs]; decide) ?_
  rw [hs]
  first | kernel_rfl | (simp [Instr.fill, Array.range]; done)
/-- A row of rows, from the second on. -/
theorem slice_from1 (g n c : Nat) (hn : n + 1 ≤ c) (hp : 0 < n) : ∀ W : World, (Instr.sliceAt 31 (.slice (some ⟨g, 0, none⟩) (n + 1) c) (some (.int .i64 1)) none none).run Try.prog W = .ok (.slice (some ⟨g, 1, none⟩) n (c - 1)) W := by
  intro W
  have ht : Try.prog.underlying 31 = some (.slice 22) := Try.underlying31
  have hel : Try.prog.elem 31 = 22 := by simp [Program.elem, ht]
  have hu : Try.prog.underlying 31 = some (.slice (Try.prog.elem 31)) := by rw [hel]; exact ht
  obtain ⟨ie, hie, hzz⟩ := Option.map_eq_some_iff.1 info_sl1
  simp only [Prod.mk.injEq] at hzz
  obtain ⟨hz, hs⟩ := hzz
  rw [run_sliceAt_slice W _ _ _ _ _ hu, run_slice_l W _ _ _ _ hu .i64 1 (by omega) (by omega), hel]
  simp [sizeOf, typeInfo, hie, hs, sliced, Result.andThen]
  rw [if_neg (by omega)]; rfl
end Go.Proofs.Ytldefibkaoboeaa.Dk
