/-
A map whose keys are whole numbers, in memory, told as a plain function: what look-ups, stores, 'clear' and the sorted keys come to.
-/
import Derived.Test.YtldefibkaoboeaaProg
import Derived.Maps.OwnSet
import Derived.Maps.OwnOps
import Derived.Lib.SlKeysI
import Derived.WalkKit
import Derived.Shelf.SlIterI.Sorted
import Derived.Shelf.SlIterI.Nil
namespace Go.Proofs.Ytldefibkaoboeaa.Dk
open Go.RowKit Go.Maps Go.ChangeMaps Go.MapKept
open Go.WideElems (Fit rg)
set_option linter.unusedVariables false
set_option linter.unusedSimpArgs false

/-- An element as it stands. -/
def RV (v : Value) : Option (DataW Value × List MemPlace) := some (.held v, [])
theorem RV_eq {v : Value} {x : Value} {ps : List MemPlace} (h : RV v = some (.held x, ps)) : v = x := by
  simp only [RV, Option.some.injEq, Prod.mk.injEq, DataW.held.injEq] at h
  exact h.1

/-- Block b is a map that has the value f x at the key x; all keys are numbers from 0 to N. -/
def IntMap (P : Program) (w : World) (b : Nat) (f : Nat → Option Value) (N : Nat) : Prop :=
  ∃ n D, w.ownsMap P 3 RV b n D ∧ (∀ x : Int, has D (.int .i64 x) = (decide (0 ≤ x) && (f x.toNat).isSome)) ∧ (∀ x v, f x = some v → ∀ z, D.atKey (.int .i64 (x : Int)) z = .held v) ∧ (∀ x, (f x).isSome = true → x < N)

variable {P : Program} {w w' : World} {b N : Nat} {f : Nat → Option Value}

theorem IntMap.lt (h : IntMap P w b f N) : b < w.heap.size := by obtain ⟨n, D, ho, _⟩ := h; exact ho.lt
theorem IntMap.move (h : IntMap P w b f N) (hb : w'.heap[b]? = w.heap[b]?) : IntMap P w' b f N := by
  obtain ⟨n, D, ⟨es, clock, h1, h2⟩, r⟩ := h
  exact ⟨n, D, ⟨es, clock, hb.trans h1, h2⟩, r⟩
theorem IntMap.made (P : Program) (w : World) (N : Nat) : IntMap P (w.alloc (.map #[] 0)) w.heap.size (fun _ => none) N :=
  ⟨0, .map [], World.ownsMap_made _ _ _ _, fun x => by simp [has], fun x v h => by simp at h, fun x h => by simp at h⟩
theorem IntMap.empty (P : Program) (w : World) (b N : Nat) (hb : w.heap[b]? = some (.map #[] 0)) : IntMap P w b (fun _ => none) N := by
  obtain ⟨es, clock, h1, F, _⟩ := World.ownsMap_made w P 3 RV
  rw [(MapKept.heap_alloc w _).1] at h1
  cases h1
  exact ⟨0, .map [], ⟨#[], 0, hb, F, Nat.le_refl _, rfl⟩, fun x => by simp [has], fun x v h => by simp at h, fun x h => by simp at h⟩
/-- The keys, in order. -/
def keysOf (f : Nat → Option Value) (N : Nat) : List Nat := (List.range N).filter fun i => (f i).isSome
theorem keysOf_sorted (f : Nat → Option Value) (N : Nat) : (keysOf f N).Pairwise (· < ·) := List.Pairwise.filter _ List.pairwise_lt_range
theorem mem_keysOf (f : Nat → Option Value) (N x : Nat) : x ∈ keysOf f N ↔ x < N ∧ (f x).isSome = true := by simp [keysOf]
def ikeys (f : Nat → Option Value) (N : Nat) : List Int := (keysOf f N).map fun i : Nat => (i : Int)
theorem ikeys_nodup (f : Nat → Option Value) (N : Nat) : (ikeys f N).Nodup :=
  List.pairwise_map.2 ((keysOf_sorted f N).imp fun h e => by omega)
theorem ikeys_sorted (f : Nat → Option Value) (N : Nat) : (ikeys f N).mergeSort (fun x y => decide (x ≤ y)) = ikeys f N :=
  List.mergeSort_of_pairwise (List.pairwise_map.2 ((keysOf_sorted f N).imp fun h => by simp; omega))
theorem IntMap.perm_of {n : Nat} {D : DataW Value} (hi : P.underlying 3 = some (.int .i64)) (ho : w.ownsMap P 3 RV b n D) (hh : ∀ x : Int, has D (.int .i64 x) = (decide (0 ≤ x) && (f x.toNat).isSome)) (hN : ∀ x, (f x).isSome = true → x < N) :
    (ikeys f N).Perm (intKeys D) := by
  refine CollectedI.perm (left := fun _ => false) ⟨ikeys_nodup f N, fun x => ?_⟩ ho (int_keyed hi) hi (fun _ => rfl)
  rw [hh x]
  simp only [ikeys, List.mem_map, mem_keysOf, Bool.and_eq_true, decide_eq_true_eq, and_true]
  constructor
  · rintro ⟨i, ⟨h1, h2⟩, rfl⟩
    exact ⟨by omega, by simpa using h2⟩
  · rintro ⟨h1, h2⟩
    exact ⟨x.toNat, ⟨hN _ h2, h2⟩, by omega⟩
theorem size_intKeys (D : DataW Value) (h : IsMap D) : Maps.size D = (intKeys D).length := by
  obtain ⟨es, rfl⟩ := h; simp [Maps.size, intKeys]
theorem IntMap.tight (hi : P.underlying 3 = some (.int .i64)) (h : IntMap P w b f N) : ∃ D, w.ownsMap P 3 RV b N D ∧ Maps.size D = (keysOf f N).length ∧ (ikeys f N).Perm (intKeys D) ∧ (∀ x : Int, has D (.int .i64 x) = (decide (0 ≤ x) && (f x.toNat).isSome)) ∧ (∀ x v, f x = some v → ∀ z, D.atKey (.int .i64 (x : Int)) z = .held v) ∧ (∀ x, (f x).isSome = true → x < N) := by
  obtain ⟨n, D, ho, hh, ha, hN⟩ := h
  have hp := IntMap.perm_of hi ho hh hN
  have hs : Maps.size D = (keysOf f N).length := by rw [size_intKeys D ho.isMap, ← hp.length_eq]; simp [ikeys]
  have hle : (keysOf f N).length ≤ N := by
    have := List.length_filter_le (fun i => (f i).isSome) (List.range N)
    rw [List.length_range] at this; exact this
  obtain ⟨es, clock, hb, F, h3, rfl⟩ := ho
  have hl : Maps.size (DataW.map ((es.toList.map (rg P 3 RV)).foldr DataW.insert [])) = es.size := length_read es
  exact ⟨_, ⟨es, clock, hb, F, by omega, rfl⟩, hs, hp, hh, ha, hN⟩

theorem wf_nat {i : Nat} (h : i < 9223372036854775808) : (Lit.int .i64 (i : Int)).wf = true := WalkArith.wf_i64 (by omega)
theorem IntMap.val {D : DataW Value} (hh : ∀ x : Int, has D (.int .i64 x) = (decide (0 ≤ x) && (f x.toNat).isSome)) (ha : ∀ x v, f x = some v → ∀ z, D.atKey (.int .i64 (x : Int)) z = .held v) (z : Value) (i : Nat) :
    D.atKey (.int .i64 (i : Int)) (.held z) = .held ((f i).getD z) ∧ has D (.int .i64 (i : Int)) = (f i).isSome := by
  have h1 : has D (.int .i64 (i : Int)) = (f i).isSome := by rw [hh]; simp
  refine ⟨?_, h1⟩
  cases hf : f i with
  | none => rw [hf] at h1; exact atKey_of_not_has h1 _
  | some v => exact ha i v hf _
theorem IntMap.look_ok (hi : P.underlying 3 = some (.int .i64)) (h : IntMap P w b f N) {t e : TypeId} (ht : P.underlying t = some (.map 3 e)) {z : Value} (hz : (zeroValue e).run P w = .ok z w) (i : Nat) (hi2 : i < 9223372036854775808) :
    (Instr.lookup t (.map (some b)) (.int .i64 (i : Int)) true).run P w = .ok (.tuple #[(f i).getD z, .bool (f i).isSome]) w := by
  obtain ⟨n, D, ho, hh, ha, hN⟩ := h
  obtain ⟨v, ps, hr, hv⟩ := ho.look_ok (int_keyed hi) ht hz (zd := .held z) (zp := []) rfl (keyOf_int_mk hi (wf_nat hi2))
  obtain ⟨e1, e2⟩ := IntMap.val hh ha z i
  rw [e1] at hv
  rw [hr, RV_eq hv, e2]
theorem IntMap.look (hi : P.underlying 3 = some (.int .i64)) (h : IntMap P w b f N) {t e : TypeId} (ht : P.underlying t = some (.map 3 e)) {z : Value} (hz : (zeroValue e).run P w = .ok z w) (i : Nat) (hi2 : i < 9223372036854775808) :
    (Instr.lookup t (.map (some b)) (.int .i64 (i : Int)) false).run P w = .ok ((f i).getD z) w := by
  obtain ⟨n, D, ho, hh, ha, hN⟩ := h
  obtain ⟨v, ps, hr, hv⟩ := ho.lookup (int_keyed hi) ht hz (zd := .held z) (zp := []) rfl (keyOf_int_mk hi (wf_nat hi2))
  obtain ⟨e1, e2⟩ := IntMap.val hh ha z i
  rw [e1] at hv
  rw [hr, RV_eq hv]
theorem IntMap.store (hi : P.underlying 3 = some (.int .i64)) (h : IntMap P w b f N) (hN2 : N < 9223372036854775807) {t e : TypeId} (ht : P.underlying t = some (.map 3 e)) (i : Nat) (hiN : i < N) (v : Value) :
    ∃ w', (Instr.mapUpdate t (.map (some b)) (.int .i64 (i : Int)) v).run P w = .ok () w' ∧ IntMap P w' b (fun j => if j = i then some v else f j) N ∧ w.mapTurned w' b := by
  obtain ⟨D, ho, _, _, hh, ha, hN⟩ := h.tight hi
  obtain ⟨w', hr, ho', ht'⟩ := ho.store (int_keyed hi) ht (by unfold maxLen; omega) (keyOf_int_mk hi (wf_nat (i := i) (by omega))) (val := v) (d := .held v) (ps := []) rfl
  refine ⟨w', hr, ⟨_, _, ho', fun x => ?_, fun x u hx z => ?_, fun x hx => ?_⟩, ht'⟩
  · by_cases e : x = (i : Int)
    · subst e
      rw [has_put_same ho.isMap (k := .int .i64 (i : Int)) trivial]
      simp
    · rw [has_put_other (by simpa using e), hh x]
      by_cases h0 : 0 ≤ x
      · have : x.toNat ≠ i := by omega
        simp [this]
      · simp [h0]
  · simp only at hx
    split at hx
    · rename_i e; subst e
      rw [atKey_put_same ho.isMap (k := .int .i64 (x : Int)) trivial, Option.some.inj hx]
    · rename_i e
      rw [atKey_put_other (by simpa using (show (x : Int) ≠ (i : Int) from by omega)), ha x u hx]
  · simp only at hx
    split at hx
    · omega
    · exact hN x hx
theorem IntMap.clear (h : IntMap P w b f N) {t e : TypeId} (ht : P.underlying t = some (.map 3 e)) (ty : TypeId) :
    ∃ w', (Builtin.clear_ #[t] ty #[.map (some b)]).run P w = .ok (.tuple #[]) w' ∧ IntMap P w' b (fun _ => none) N ∧ w.mapTurned w' b := by
  obtain ⟨n, D, ⟨es, clock, hb, F, hs, rfl⟩, hh, ha, hN⟩ := h
  refine ⟨setBlock w b (.map #[] clock), ?_, ?_, ⟨es, clock, #[], clock, hb, by simp [setBlock]⟩⟩
  · simp [Builtin.clear_, run_underlying ht, MapKept.run_getObj_map hb, MapKept.run_setObj_map _ hb, setBlock]
  · exact ⟨0, .map [], ⟨#[], clock, heap_setBlock_same hb _, ⟨by simp, stamped_empty clock, by simp⟩, Nat.le_refl _, rfl⟩, fun x => by simp [has], fun x v h => by simp at h, fun x h => by simp at h⟩
end Go.Proofs.Ytldefibkaoboeaa.Dk
