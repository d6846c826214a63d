import Derived.Test.YtllnleokjcimhaaDoorChecked
import Derived.Test.YtllnleokjcimhaaDoorZEntryFitsWWords
import Derived.Test.YtllnleokjcimhaaDoorZEntryFitsWLast
import Derived.Test.YtllnleokjcimhaaDoorZEntryFitsWMore
import Derived.Below
import Derived.Laws.Rows
import Derived.Lib.Hide
import Derived.Deep.Draws
import Derived.WalkLawsBesides
import Derived.WalkSpells
import Derived.Outline
import Derived.IntWalk
import Derived.KernelRfl
import Derived.Laws.MakeOwn
import Derived.Laws.IdiomCopy
import Derived.StillTailTactics
import Derived.Maps.AppendAt
import Derived.OwnWalk
import Derived.Shelf.Abstract
import Derived.Deep.AppendLies
import Derived.Laws.BytesArg
import Derived.Laws.OwnMore
import Derived.Deep.OwnRows
import Derived.Tactics
import Derived.Lib.ConvBytes
import Derived.Laws.Slices
import Derived.WalkKit
import Derived.RowKit3
import Derived.Deep.LoopGhost
import Derived.Deep.QuietTactic
import Derived.BigQuiet
import Derived.WideLaws
import Derived.Deep.DeepCutAuto
import Derived.Deep.CutBlock
import Derived.Deep.RegionHeld3
import Derived.Lib.AppendStr
import Derived.ArgAppend
import Derived.OrdersHeld
import Derived.Laws.BitsLemmas
import Derived.RowKit
import Derived.Lib.SlBytesConst
import Derived.Lib.SlTrimSet
/-
Facts that a walk hides; what turns from world to world; small laws on rows of bytes.
-/
namespace Go.Proofs.YtllnleokjcimhaaDoor.En
open Go.RowKit Go.Maps Go.Proofs.YtllnleokjcimhaaDoorW.PrintWords Go.Proofs.YtllnleokjcimhaaDoorW.PrintLast Go.Proofs.YtllnleokjcimhaaDoorW.PrintMore
set_option linter.unusedVariables false
set_option linter.unusedSimpArgs false
/-- A fact that the walk's simp doesn't look into. -/
structure Fact (p : Prop) : Prop where mk :: (out : p)
/-- From w to w' nothing that was there has turned but blocks of S. -/
structure Only (S : Nat → Prop) (w w' : World) : Prop where
  os : w'.os = w.os
  tape : w'.tape = w.tape
  output : w'.output = w.output
  size : w.heap.size ≤ w'.heap.size
  block : ∀ k, k < w.heap.size → ¬ S k → w'.heap[k]? = w.heap[k]?
theorem Only.refl (S : Nat → Prop) (w : World) : Only S w w := ⟨rfl, rfl, rfl, Nat.le_refl _, fun _ _ _ => rfl⟩
theorem Only.then_ {S S2 : Nat → Prop} {w w1 w2 : World} (h : Only S w w1) (k : Only S2 w1 w2) (hs : ∀ k, S2 k → S k ∨ w.heap.size ≤ k) : Only S w w2 :=
  ⟨k.os.trans h.os, k.tape.trans h.tape, k.output.trans h.output, Nat.le_trans h.size k.size, fun i hi hn =>
    (k.block i (Nat.lt_of_lt_of_le hi h.size) (fun hk => (hs i hk).elim hn (fun h2 => by omega))).trans (h.block i hi hn)⟩
theorem Only.trans {S : Nat → Prop} {w w1 w2 : World} (h : Only S w w1) (k : Only S w1 w2) : Only S w w2 := h.then_ k (fun _ hk => .inl hk)
theorem Only.mono {S S2 : Nat → Prop} {w w' : World} (h : Only S w w') (hs : ∀ k, S k → S2 k) : Only S2 w w' := ⟨h.os, h.tape, h.output, h.size, fun i hi hn => h.block i hi (fun hk => hn (hs i hk))⟩
theorem Only.of_below {w w' : World} (h : Below w.heap.size w w') (S : Nat → Prop) : Only S w w' := ⟨h.os, h.tape, h.output, h.size, fun i hi _ => h.block i hi⟩
theorem Only.below {S : Nat → Prop} {w w' : World} (h : Only S w w') {B : Nat} (hB : B ≤ w.heap.size) (hs : ∀ k, S k → B ≤ k) : Below B w w' :=
  ⟨h.os, h.tape, h.output, h.size, fun i hi => h.block i (by omega) (fun hk => by have := hs i hk; omega)⟩
theorem Only.alloc (S : Nat → Prop) (w : World) (o : Obj) : Only S w (w.alloc o) := Only.of_below ((Below.refl _ _).alloc (Nat.le_refl _) o) S
theorem Only.drew {S : Nat → Prop} {w w' : World} (h : Only S w w') : Only S w w'.drew := ⟨h.os, h.tape, h.output, h.size, h.block⟩
theorem Only.drewN {S : Nat → Prop} {w w' : World} (h : Only S w w') (n : Nat) : Only S w (w'.drewN n) := ⟨h.os, h.tape, h.output, h.size, h.block⟩
theorem Only.setCell {S : Nat → Prop} (w : World) {a : Addr} (ha : S a.block) (v : Value) : Only S w (w.setCell a v) :=
  ⟨rfl, rfl, rfl, by simp [World.setCell], fun i _ hn => Below.heap_setCell _ _ _ _ (fun e => hn (e ▸ ha))⟩
theorem info_u8 : (Tryd.prog.info? 5).map (fun i => (i.zero, i.size, i.bytes)) = some (some (.int .u8 0), 1, 1) := by kernel_rfl
theorem info_str : (Tryd.prog.info? 9).map (fun i => (i.zero, i.size, i.bytes)) = some (some (.string ByteArray.empty), 1, 16) := by kernel_rfl
/-- Bytes that are read. -/
abbrev ReadB (w : World) (A : Option Addr) (n : Nat) (l : List Int) : Prop := Kd.C (Kd.int .u8) w A n l
theorem own_only {α : Type} {d : Kd α} {e : Nat} {w w' : World} {base : Nat} {ok S : Nat → Prop} {v : Value} {xs : List α} (h : d.R e w base ok v xs) (ho : Only S w w') (hs : ∀ k, ok k → ¬ S k) : d.R e w' base ok v xs :=
  Kd.R_step h fun k hk hl => ho.block k hl (hs k hk)
theorem read_below {α : Type} {d : Kd α} {w w' : World} {A : Option Addr} {n : Nat} {xs : List α} (h : d.C w A n xs) (hb : Below w.heap.size w w') : d.C w' A n xs := Kd.C_below h hb
theorem conv_read {W : World} {A : Option Addr} {n c : Nat} {l : List Int} (h : ReadB W A n l) : (convert 25 9 (.slice A n c)).run Tryd.prog W = .ok (.string (strOfNums l)) W := Kd.C_string Tryd.underlying25 Tryd.underlying5 Tryd.underlying9 h
theorem next_below {w w1 w2 : World} {S : Nat → Prop} (h : Below w.heap.size w w1) (ho : Only S w1 w2) (hs : ∀ k, S k → w.heap.size ≤ k) : Below w.heap.size w w2 := h.trans (ho.below h.size hs)
theorem next_new {w w1 w2 : World} (h : Below w.heap.size w w1) (hb : Below w1.heap.size w1 w2) : Below w.heap.size w w2 := h.trans (hb.mono h.size)
theorem reads_nil (w : World) : ReadB w none 0 [] := ⟨rfl, by decide, fun h => by simp at h⟩
/-- A cut of a slice of bytes. -/
theorem cut_to (W : World) (A : Option Addr) (n c m : Nat) (hm : m ≤ c) : (Instr.sliceAt 25 (.slice A n c) none (some (.int .i64 (m : Int))) none).run Tryd.prog W = .ok (.slice A m c) W := by
  have ht : Tryd.prog.underlying 25 = some (.slice 5) := Tryd.underlying25
  have hel : Tryd.prog.elem 25 = 5 := by simp [Program.elem, ht]
  have hu : Tryd.prog.underlying 25 = some (.slice (Tryd.prog.elem 25)) := by rw [hel]; exact ht
  obtain ⟨ie, hie, hzz⟩ := Option.map_eq_some_iff.1 info_u8
  simp only [Prod.mk.injEq] at hzz
  obtain ⟨hz, hs, _⟩ := hzz
  rw [run_sliceAt_slice W _ _ _ _ _ hu, run_slice_h W _ _ _ _ hu .i64 (m : Int) (by omega) (by omega), hel]
  simp [sizeOf, typeInfo, hie, hs, sliced, Result.andThen]
  try (intro _; cases A <;> simp [Addr.add])
theorem cut_from (W : World) (A : Option Addr) (n c m : Nat) (hm : m ≤ n) : (Instr.sliceAt 25 (.slice A n c) (some (.int .i64 (m : Int))) none none).run Tryd.prog W = .ok (.slice (if c = m then A else A.map (·.add (m * 1))) (n - m) (c - m)) W := by
  have ht : Tryd.prog.underlying 25 = some (.slice 5) := Tryd.underlying25
  have hel : Tryd.prog.elem 25 = 5 := by simp [Program.elem, ht]
  have hu : Tryd.prog.underlying 25 = some (.slice (Tryd.prog.elem 25)) := by rw [hel]; exact ht
  obtain ⟨ie, hie, hzz⟩ := Option.map_eq_some_iff.1 info_u8
  simp only [Prod.mk.injEq] at hzz
  obtain ⟨hz, hs, _⟩ := hzz
  rw [run_sliceAt_slice W _ _ _ _ _ hu, run_slice_l W _ _ _ _ hu .i64 (m : Int) (by omega) (by omega), hel]
  simp [sizeOf, typeInfo, hie, hs, sliced, Result.andThen]
end Go.Proofs.YtllnleokjcimhaaDoor.En
