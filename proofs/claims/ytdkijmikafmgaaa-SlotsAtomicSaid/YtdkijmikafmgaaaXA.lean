/-
The disk in memory and as plain data: the texts of the disk's first walks, one behind the other.
-/
import Derived.KernelRfl
import Derived.Test.YtdkijmikafmgaaaProg
import Derived.Maps.OwnSet
import Derived.Maps.OwnOps
import Derived.Lib.SlKeysI
import Derived.WalkKit
import Derived.Shelf.SlIterI.Sorted
import Derived.Shelf.SlIterI.Nil
import Derived.Below
import Derived.Laws.Rows
import Derived.Lib.Hide
import Derived.Deep.Draws
import Derived.WalkLawsBesides
import Derived.IntWalk
import Derived.Laws.MakeOwn
import Derived.Laws.IdiomCopy
import Derived.WalkSpells
import Derived.Outline
import Derived.Test.YtdkijmikafmgaaaWWords
import Derived.Test.YtdkijmikafmgaaaWLast
import Derived.Test.YtdkijmikafmgaaaWMore
import Derived.Deep.WholeRow
import Derived.Deep.MidRow
import Derived.StillTailTactics
namespace Go.Proofs.Ytdkijmikafmgaaa.Dk
set_option linter.unusedVariables false
set_option linter.unusedSimpArgs false

/-- A disk: n sectors; what stands; what is pending; which are bad; how many calls are done still (below 0: it isn't armed); is it down. -/
structure PD where
  n : Nat
  st : Nat → List Int
  pe : Nat → Option (List Int)
  bad : Nat → Bool
  left : Int
  down : Bool

/-- Bytes, and noughts up to a sector. -/
def pad (b : List Int) : List Int := (b ++ List.replicate 64 0).take 64
theorem pad_length (b : List Int) : (pad b).length = 64 := by simp [pad]
theorem pad_nil : pad [] = List.replicate 64 0 := rfl
theorem pad_of_full {b : List Int} (h : b.length = 64) : pad b = b := by rw [pad, ← h, List.take_left]
theorem pad_le {b : List Int} (h : b.length ≤ 64) : pad b = b ++ List.replicate (64 - b.length) 0 := by
  rw [pad, List.take_append, List.take_of_length_le h, List.take_replicate]
  congr 2; omega
theorem pad_get {b : List Int} (h : b.length ≤ 64) (j : Nat) (hj : j < 64) : (pad b).getD j 0 = b.getD j 0 := by
  rw [pad_le h]
  simp only [List.getD_eq_getElem?_getD]
  rcases Nat.lt_or_ge j b.length with h1 | h1
  · rw [List.getElem?_append_left h1]
  · rw [List.getElem?_append_right h1, List.getElem?_eq_none h1, List.getElem?_replicate]
    split <;> rfl

namespace PD
def new (n : Nat) : PD := ⟨n, fun _ => List.replicate 64 0, fun _ => none, fun _ => false, -1, false⟩
def there (D : PD) (i : Int) : Bool := decide (0 ≤ i) && decide (i < D.n)
/-- What a sector has, pending or not. -/
def now (D : PD) (i : Nat) : List Int := (D.pe i).getD (D.st i)
def read (D : PD) (i : Int) : List Int × Int :=
  if D.down then ([], 40) else if D.there i = false then ([], 11) else if D.bad i.toNat then ([], 41) else (D.now i.toNat, 0)
/-- A call that would be done begins. -/
def call (D : PD) : PD := { D with down := decide (D.left = 0), left := max (D.left - 1) (-1) }
def put (D : PD) (i : Nat) (b : List Int) : PD := { D with pe := fun j => if j = i then some b else D.pe j }
def write (D : PD) (i : Int) (b : List Int) : Int × PD :=
  if D.down then (40, D) else if D.there i = false ∨ 64 < b.length then (11, D) else if D.call.down then (40, D.call) else (0, D.call.put i.toNat (pad b))
/-- The sectors that are pending, in order. -/
def keys (D : PD) : List Nat := (List.range D.n).filter fun i => (D.pe i).isSome
/-- How many pending sectors are ahead of one. -/
def rank (D : PD) (i : Nat) : Nat := ((List.range i).filter fun j => (D.pe j).isSome).length
def stand (D : PD) (keep : Nat → Bool) : PD :=
  { D with st := fun i => match D.pe i with | some b => if keep (D.rank i) then b else D.st i | none => D.st i, pe := fun _ => none }
def flush (D : PD) : Int × PD := if D.down then (40, D) else if D.call.down then (40, D.call) else (0, D.call.stand fun _ => true)
def setBad (D : PD) (i : Int) (on : Bool) : Int × PD :=
  if D.there i then (0, { D with bad := fun j => if j = i.toNat then on else D.bad j }) else (11, D)
def arm (D : PD) (k : Int) : PD := { D with left := max k (-1) }
def crash (D : PD) (keep : List Bool) : PD := { D.stand (fun k => keep.getD k false) with left := -1, down := false }

/-- What holds of each disk that the program makes. -/
structure Good (D : PD) : Prop where
  one : 1 ≤ D.n
  most : D.n ≤ 4096
  lo : -1 ≤ D.left
  hi : D.left < 9223372036854775808
  full : ∀ i, (D.st i).length = 64
  fullp : ∀ i b, D.pe i = some b → i < D.n ∧ b.length = 64
theorem Good.new {n : Nat} (h1 : 1 ≤ n) (h2 : n ≤ 4096) : Good (new n) := ⟨h1, h2, by simp [PD.new], by simp [PD.new], fun i => by simp [PD.new], fun i b h => by simp [PD.new] at h⟩
theorem Good.call {D : PD} (h : Good D) : Good D.call :=
  ⟨h.one, h.most, by simp [PD.call]; omega, by have := h.hi; have := h.lo; simp only [PD.call]; omega, h.full, h.fullp⟩
theorem Good.put {D : PD} (h : Good D) {i : Nat} (hi : i < D.n) {b : List Int} (hb : b.length = 64) : Good (D.put i b) :=
  ⟨h.one, h.most, h.lo, h.hi, h.full, fun j c hc => by
    simp only [PD.put] at hc ⊢
    split at hc
    · rename_i e; subst e; exact ⟨hi, by rw [← Option.some.inj hc]; exact hb⟩
    · exact h.fullp j c hc⟩
theorem Good.stand {D : PD} (h : Good D) (keep : Nat → Bool) : Good (D.stand keep) :=
  ⟨h.one, h.most, h.lo, h.hi, fun i => by
    simp only [PD.stand]
    split
    · rename_i b hb
      split
      · exact (h.fullp i b hb).2
      · exact h.full i
    · exact h.full i, fun i b hb => by simp [PD.stand] at hb⟩
theorem there_iff (D : PD) (i : Int) : D.there i = true ↔ 0 ≤ i ∧ i < D.n := by simp [PD.there]
theorem Good.write {D : PD} (h : Good D) (i : Int) (b : List Int) : Good (D.write i b).2 := by
  unfold PD.write
  split
  · exact h
  · split
    · exact h
    · rename_i h1 h2
      split
      · exact h.call
      · have h3 : D.there i = true := by
          cases hq : D.there i with
          | true => rfl
          | false => exact absurd (.inl hq) h2
        have := (there_iff D i).1 h3
        exact h.call.put (by show i.toNat < D.n; omega) (pad_length b)
theorem Good.flush {D : PD} (h : Good D) : Good D.flush.2 := by
  unfold PD.flush
  split
  · exact h
  · split
    · exact h.call
    · show PD.Good (D.call.stand fun _ => true)
      exact h.call.stand _
theorem Good.setBad {D : PD} (h : Good D) (i : Int) (on : Bool) : Good (D.setBad i on).2 := by
  unfold PD.setBad
  split
  · exact ⟨h.one, h.most, h.lo, h.hi, h.full, h.fullp⟩
  · exact h
theorem Good.arm {D : PD} (h : Good D) {k : Int} (hk : k < 9223372036854775808) : Good (D.arm k) :=
  ⟨h.one, h.most, by simp [PD.arm]; omega, by simp only [PD.arm]; omega, h.full, h.fullp⟩
theorem Good.crash {D : PD} (h : Good D) (keep : List Bool) : Good (D.crash keep) :=
  let g := h.stand (fun k => keep.getD k false)
  ⟨g.one, g.most, by simp [PD.crash], by simp [PD.crash], g.full, g.fullp⟩
/-! A disk that isn't armed, and whose power is there. -/
structure Up (D : PD) : Prop where
  left : D.left = -1
  down : D.down = false
theorem Up.call {D : PD} (h : Up D) : D.call = D := by
  cases D with
  | mk n st pe bad left down =>
    obtain ⟨rfl, rfl⟩ := h
    rfl
theorem Up.new (n : Nat) : Up (PD.new n) := ⟨rfl, rfl⟩
theorem Up.put {D : PD} (h : Up D) (i : Nat) (b : List Int) : Up (D.put i b) := ⟨h.left, h.down⟩
theorem Up.stand {D : PD} (h : Up D) (keep : Nat → Bool) : Up (D.stand keep) := ⟨h.left, h.down⟩
theorem Up.crash (D : PD) (keep : List Bool) : Up (D.crash keep) := ⟨rfl, rfl⟩
theorem Up.write {D : PD} (h : Up D) {i : Nat} (hi : i < D.n) {b : List Int} (hb : b.length ≤ 64) : D.write (i : Int) b = (0, D.put i (pad b)) := by
  unfold PD.write
  have ht : D.there (i : Int) = true := by rw [there_iff]; omega
  rw [if_neg (by simp [h.down]), if_neg (by rw [ht]; simp; omega), h.call, if_neg (by simp [h.down]), Int.toNat_natCast]
theorem Up.flush {D : PD} (h : Up D) : D.flush = (0, D.stand fun _ => true) := by
  unfold PD.flush
  rw [if_neg (by simp [h.down]), h.call, if_neg (by simp [h.down])]
theorem Up.read {D : PD} (h : Up D) {i : Nat} (hi : i < D.n) (hb : D.bad i = false) : D.read (i : Int) = (D.now i, 0) := by
  unfold PD.read
  have ht : D.there (i : Int) = true := by rw [there_iff]; omega
  rw [if_neg (by simp [h.down]), if_neg (by rw [ht]; simp), Int.toNat_natCast, if_neg (by simp [hb])]
theorem Up.read_bad {D : PD} (h : Up D) {i : Nat} (hi : i < D.n) (hb : D.bad i = true) : D.read (i : Int) = ([], 41) := by
  unfold PD.read
  have ht : D.there (i : Int) = true := by rw [there_iff]; omega
  rw [if_neg (by simp [h.down]), if_neg (by rw [ht]; simp), Int.toNat_natCast, if_pos hb]
def badden (D : PD) (i : Nat) (on : Bool) : PD := { D with bad := fun j => if j = i then on else D.bad j }
theorem Up.setBad {D : PD} (h : Up D) {i : Nat} (hi : i < D.n) (on : Bool) : D.setBad (i : Int) on = (0, D.badden i on) := by
  unfold PD.setBad
  have ht : D.there (i : Int) = true := by rw [there_iff]; omega
  rw [if_pos ht, Int.toNat_natCast]; rfl
theorem Up.badden {D : PD} (h : Up D) (i : Nat) (on : Bool) : Up (D.badden i on) := ⟨h.left, h.down⟩
theorem now_length {D : PD} (h : Good D) (i : Nat) : (D.now i).length = 64 := by
  unfold PD.now
  cases hp : D.pe i with
  | none => exact h.full i
  | some b => exact (h.fullp i b hp).2
theorem now_put_same (D : PD) (i : Nat) (b : List Int) : (D.put i b).now i = b := by simp [PD.now, PD.put]
theorem now_put_other (D : PD) {i j : Nat} (h : j ≠ i) (b : List Int) : (D.put i b).now j = D.now j := by simp [PD.now, PD.put, h]
theorem now_badden (D : PD) (i j : Nat) (on : Bool) : (D.badden i on).now j = D.now j := rfl
/-- Behind k calls on a disk that was armed with n. -/
structure Arms (n k : Nat) (D : PD) : Prop where
  eight : D.n = 8
  up : k ≤ n → D.down = false ∧ D.left = (n : Int) - (k : Int)
  dn : n < k → D.down = true
theorem Arms.start {D : PD} (h : Up D) (h8 : D.n = 8) (n : Nat) : Arms n 0 (D.arm n) := ⟨h8, fun _ => ⟨h.down, by simp only [PD.arm]; omega⟩, fun h => by omega⟩
theorem Arms.call_lt {n k : Nat} {D : PD} (h : Arms n k D) (hk : k < n) : D.call.down = false ∧ Arms n (k + 1) D.call := by
  obtain ⟨h1, h2⟩ := h.up (by omega)
  have h3 : D.call.down = false := by simp only [PD.call, h2]; rw [decide_eq_false_iff_not]; omega
  exact ⟨h3, h.eight, fun _ => ⟨h3, by simp only [PD.call, h2]; omega⟩, fun hh => by omega⟩
theorem Arms.call_eq {n k : Nat} {D : PD} (h : Arms n k D) (hk : k = n) : D.call.down = true ∧ Arms n (k + 1) D.call := by
  obtain ⟨h1, h2⟩ := h.up (by omega)
  have h3 : D.call.down = true := by simp only [PD.call, h2]; rw [decide_eq_true_iff]; omega
  exact ⟨h3, h.eight, fun hh => by omega, fun _ => h3⟩
theorem Arms.keep {n k : Nat} {D D' : PD} (h : Arms n k D) (h8 : D'.n = D.n) (hd : D'.down = D.down) (hl : D'.left = D.left) : Arms n k D' := ⟨h8.trans h.eight, fun hk => by rw [hd, hl]; exact h.up hk, fun hk => by rw [hd]; exact h.dn hk⟩
theorem Arms.write_lt {n k : Nat} {D : PD} (h : Arms n k D) (hk : k < n) {i : Nat} (hi : i < 8) {b : List Int} (hb : b.length ≤ 64) : D.write (i : Int) b = (0, D.call.put i (pad b)) ∧ Arms n (k + 1) (D.call.put i (pad b)) := by
  obtain ⟨h1, h2⟩ := h.call_lt hk
  refine ⟨?_, h2.keep rfl rfl rfl⟩
  unfold PD.write
  have ht : D.there (i : Int) = true := by rw [there_iff, h.eight]; omega
  rw [if_neg (by simp [(h.up (by omega)).1]), if_neg (by rw [ht]; simp; omega), if_neg (by simp [h1]), Int.toNat_natCast]
theorem Arms.write_ge {n k : Nat} {D : PD} (h : Arms n k D) (hk : n ≤ k) {i : Nat} (hi : i < 8) {b : List Int} (hb : b.length ≤ 64) : ∃ D', D.write (i : Int) b = (40, D') ∧ Arms n (k + 1) D' := by
  unfold PD.write
  have ht : D.there (i : Int) = true := by rw [there_iff, h.eight]; omega
  rcases Nat.eq_or_lt_of_le hk with rfl | hk
  · obtain ⟨h1, h2⟩ := h.call_eq rfl
    refine ⟨D.call, ?_, h2⟩
    rw [if_neg (by simp [(h.up (by omega)).1]), if_neg (by rw [ht]; simp; omega), if_pos h1]
  · exact ⟨D, by rw [if_pos (h.dn hk)], h.eight, fun hh => by omega, fun _ => h.dn hk⟩
theorem Arms.flush_lt {n k : Nat} {D : PD} (h : Arms n k D) (hk : k < n) : D.flush = (0, D.call.stand fun _ => true) ∧ Arms n (k + 1) (D.call.stand fun _ => true) := by
  obtain ⟨h1, h2⟩ := h.call_lt hk
  refine ⟨?_, h2.keep rfl rfl rfl⟩
  unfold PD.flush
  rw [if_neg (by simp [(h.up (by omega)).1]), if_neg (by simp [h1])]
theorem Arms.flush_ge {n k : Nat} {D : PD} (h : Arms n k D) (hk : n ≤ k) : ∃ D', D.flush = (40, D') ∧ Arms n (k + 1) D' := by
  unfold PD.flush
  rcases Nat.eq_or_lt_of_le hk with rfl | hk
  · obtain ⟨h1, h2⟩ := h.call_eq rfl
    refine ⟨D.call, ?_, h2⟩
    rw [if_neg (by simp [(h.up (by omega)).1]), if_pos h1]
  · exact ⟨D, by rw [if_pos (h.dn hk)], h.eight, fun hh => by omega, fun _ => h.dn hk⟩
theorem Arms.down {n k : Nat} {D : PD} (h : Arms n (k + 1) D) : D.down = decide (n ≤ k) := by
  by_cases hk : n ≤ k
  · rw [h.dn (by omega), decide_eq_true hk]
  · rw [(h.up (by omega)).1, decide_eq_false hk]
theorem read_down {D : PD} (h : D.down = true) (i : Int) : D.read i = ([], 40) := by unfold PD.read; rw [if_pos h]
/-- What was flushed stands as it was. -/
theorem now_flush (D : PD) (i : Nat) : (D.stand fun _ => true).now i = D.now i := by
  simp only [PD.now, PD.stand, Option.getD_none]
  cases D.pe i <;> simp
end PD
end Go.Proofs.Ytdkijmikafmgaaa.Dk
namespace Go.Proofs.Ytdkijmikafmgaaa.Dk
open Go.RowKit Go.Maps Go.ChangeMaps Go.MapKept
open Go.WideElems (Fit rg)
set_option linter.unusedVariables false
set_option linter.unusedSimpArgs false

/-- An element as it stands. -/
def RV (v : Value) : Option (DataW Value × List MemPlace) := some (.held v, [])
theorem RV_eq {v : Value} {x : Value} {ps : List MemPlace} (h : RV v = some (.held x, ps)) : v = x := by
  simp only [RV, Option.some.injEq, Prod.mk.injEq, DataW.held.injEq] at h
  exact h.1

/-- Block b is a map that has the value f x at the key x; all keys are numbers from 0 to N. -/
def IntMap (P : Program) (w : World) (b : Nat) (f : Nat → Option Value) (N : Nat) : Prop :=
  ∃ n D, w.ownsMap P 3 RV b n D ∧ (∀ x : Int, has D (.int .i64 x) = (decide (0 ≤ x) && (f x.toNat).isSome)) ∧ (∀ x v, f x = some v → ∀ z, D.atKey (.int .i64 (x : Int)) z = .held v) ∧ (∀ x, (f x).isSome = true → x < N)

variable {P : Program} {w w' : World} {b N : Nat} {f : Nat → Option Value}

theorem IntMap.lt (h : IntMap P w b f N) : b < w.heap.size := by obtain ⟨n, D, ho, _⟩ := h; exact ho.lt
theorem IntMap.move (h : IntMap P w b f N) (hb : w'.heap[b]? = w.heap[b]?) : IntMap P w' b f N := by
  obtain ⟨n, D, ⟨es, clock, h1, h2⟩, r⟩ := h
  exact ⟨n, D, ⟨es, clock, hb.trans h1, h2⟩, r⟩
theorem IntMap.made (P : Program) (w : World) (N : Nat) : IntMap P (w.alloc (.map #[] 0)) w.heap.size (fun _ => none) N :=
  ⟨0, .map [], World.ownsMap_made _ _ _ _, fun x => by simp [has], fun x v h => by simp at h, fun x h => by simp at h⟩
theorem IntMap.empty (P : Program) (w : World) (b N : Nat) (hb : w.heap[b]? = some (.map #[] 0)) : IntMap P w b (fun _ => none) N := by
  obtain ⟨es, clock, h1, F, _⟩ := World.ownsMap_made w P 3 RV
  rw [(MapKept.heap_alloc w _).1] at h1
  cases h1
  exact ⟨0, .map [], ⟨#[], 0, hb, F, Nat.le_refl _, rfl⟩, fun x => by simp [has], fun x v h => by simp at h, fun x h => by simp at h⟩
/-- The keys, in order. -/
def keysOf (f : Nat → Option Value) (N : Nat) : List Nat := (List.range N).filter fun i => (f i).isSome
theorem keysOf_sorted (f : Nat → Option Value) (N : Nat) : (keysOf f N).Pairwise (· < ·) := List.Pairwise.filter _ List.pairwise_lt_range
theorem mem_keysOf (f : Nat → Option Value) (N x : Nat) : x ∈ keysOf f N ↔ x < N ∧ (f x).isSome = true := by simp [keysOf]
def ikeys (f : Nat → Option Value) (N : Nat) : List Int := (keysOf f N).map fun i : Nat => (i : Int)
theorem ikeys_nodup (f : Nat → Option Value) (N : Nat) : (ikeys f N).Nodup :=
  List.pairwise_map.2 ((keysOf_sorted f N).imp fun h e => by omega)
theorem ikeys_sorted (f : Nat → Option Value) (N : Nat) : (ikeys f N).mergeSort (fun x y => decide (x ≤ y)) = ikeys f N :=
  List.mergeSort_of_pairwise (List.pairwise_map.2 ((keysOf_sorted f N).imp fun h => by simp; omega))
theorem IntMap.perm_of {n : Nat} {D : DataW Value} (hi : P.underlying 3 = some (.int .i64)) (ho : w.ownsMap P 3 RV b n D) (hh : ∀ x : Int, has D (.int .i64 x) = (decide (0 ≤ x) && (f x.toNat).isSome)) (hN : ∀ x, (f x).isSome = true → x < N) :
    (ikeys f N).Perm (intKeys D) := by
  refine CollectedI.perm (left := fun _ => false) ⟨ikeys_nodup f N, fun x => ?_⟩ ho (int_keyed hi) hi (fun _ => rfl)
  rw [hh x]
  simp only [ikeys, List.mem_map, mem_keysOf, Bool.and_eq_true, decide_eq_true_eq, and_true]
  constructor
  · rintro ⟨i, ⟨h1, h2⟩, rfl⟩
    exact ⟨by omega, by simpa using h2⟩
  · rintro ⟨h1, h2⟩
    exact ⟨x.toNat, ⟨hN _ h2, h2⟩, by omega⟩
theorem size_intKeys (D : DataW Value) (h : IsMap D) : Maps.size D = (intKeys D).length := by
  obtain ⟨es, rfl⟩ := h; simp [Maps.size, intKeys]
theorem IntMap.tight (hi : P.underlying 3 = some (.int .i64)) (h : IntMap P w b f N) : ∃ D, w.ownsMap P 3 RV b N D ∧ Maps.size D = (keysOf f N).length ∧ (ikeys f N).Perm (intKeys D) ∧ (∀ x : Int, has D (.int .i64 x) = (decide (0 ≤ x) && (f x.toNat).isSome)) ∧ (∀ x v, f x = some v → ∀ z, D.atKey (.int .i64 (x : Int)) z = .held v) ∧ (∀ x, (f x).isSome = true → x < N) := by
  obtain ⟨n, D, ho, hh, ha, hN⟩ := h
  have hp := IntMap.perm_of hi ho hh hN
  have hs : Maps.size D = (keysOf f N).length := by rw [size_intKeys D ho.isMap, ← hp.length_eq]; simp [ikeys]
  have hle : (keysOf f N).length ≤ N := by
    have := List.length_filter_le (fun i => (f i).isSome) (List.range N)
    rw [List.length_range] at this; exact this
  obtain ⟨es, clock, hb, F, h3, rfl⟩ := ho
  have hl : Maps.size (DataW.map ((es.toList.map (rg P 3 RV)).foldr DataW.insert [])) = es.size := length_read es
  exact ⟨_, ⟨es, clock, hb, F, by omega, rfl⟩, hs, hp, hh, ha, hN⟩

theorem wf_nat {i : Nat} (h : i < 9223372036854775808) : (Lit.int .i64 (i : Int)).wf = true := WalkArith.wf_i64 (by omega)
theorem IntMap.val {D : DataW Value} (hh : ∀ x : Int, has D (.int .i64 x) = (decide (0 ≤ x) && (f x.toNat).isSome)) (ha : ∀ x v, f x = some v → ∀ z, D.atKey (.int .i64 (x : Int)) z = .held v) (z : Value) (i : Nat) :
    D.atKey (.int .i64 (i : Int)) (.held z) = .held ((f i).getD z) ∧ has D (.int .i64 (i : Int)) = (f i).isSome := by
  have h1 : has D (.int .i64 (i : Int)) = (f i).isSome := by rw [hh]; simp
  refine ⟨?_, h1⟩
  cases hf : f i with
  | none => rw [hf] at h1; exact atKey_of_not_has h1 _
  | some v => exact ha i v hf _
theorem IntMap.look_ok (hi : P.underlying 3 = some (.int .i64)) (h : IntMap P w b f N) {t e : TypeId} (ht : P.underlying t = some (.map 3 e)) {z : Value} (hz : (zeroValue e).run P w = .ok z w) (i : Nat) (hi2 : i < 9223372036854775808) :
    (Instr.lookup t (.map (some b)) (.int .i64 (i : Int)) true).run P w = .ok (.tuple #[(f i).getD z, .bool (f i).isSome]) w := by
  obtain ⟨n, D, ho, hh, ha, hN⟩ := h
  obtain ⟨v, ps, hr, hv⟩ := ho.look_ok (int_keyed hi) ht hz (zd := .held z) (zp := []) rfl (keyOf_int_mk hi (wf_nat hi2))
  obtain ⟨e1, e2⟩ := IntMap.val hh ha z i
  rw [e1] at hv
  rw [hr, RV_eq hv, e2]
theorem IntMap.look (hi : P.underlying 3 = some (.int .i64)) (h : IntMap P w b f N) {t e : TypeId} (ht : P.underlying t = some (.map 3 e)) {z : Value} (hz : (zeroValue e).run P w = .ok z w) (i : Nat) (hi2 : i < 9223372036854775808) :
    (Instr.lookup t (.map (some b)) (.int .i64 (i : Int)) false).run P w = .ok ((f i).getD z) w := by
  obtain ⟨n, D, ho, hh, ha, hN⟩ := h
  obtain ⟨v, ps, hr, hv⟩ := ho.lookup (int_keyed hi) ht hz (zd := .held z) (zp := []) rfl (keyOf_int_mk hi (wf_nat hi2))
  obtain ⟨e1, e2⟩ := IntMap.val hh ha z i
  rw [e1] at hv
  rw [hr, RV_eq hv]
theorem IntMap.store (hi : P.underlying 3 = some (.int .i64)) (h : IntMap P w b f N) (hN2 : N < 9223372036854775807) {t e : TypeId} (ht : P.underlying t = some (.map 3 e)) (i : Nat) (hiN : i < N) (v : Value) :
    ∃ w', (Instr.mapUpdate t (.map (some b)) (.int .i64 (i : Int)) v).run P w = .ok () w' ∧ IntMap P w' b (fun j => if j = i then some v else f j) N ∧ w.mapTurned w' b := by
  obtain ⟨D, ho, _, _, hh, ha, hN⟩ := h.tight hi
  obtain ⟨w', hr, ho', ht'⟩ := ho.store (int_keyed hi) ht (by unfold maxLen; omega) (keyOf_int_mk hi (wf_nat (i := i) (by omega))) (val := v) (d := .held v) (ps := []) rfl
  refine ⟨w', hr, ⟨_, _, ho', fun x => ?_, fun x u hx z => ?_, fun x hx => ?_⟩, ht'⟩
  · by_cases e : x = (i : Int)
    · subst e
      rw [has_put_same ho.isMap (k := .int .i64 (i : Int)) trivial]
      simp
    · rw [has_put_other (by simpa using e), hh x]
      by_cases h0 : 0 ≤ x
      · have : x.toNat ≠ i := by omega
        simp [this]
      · simp [h0]
  · simp only at hx
    split at hx
    · rename_i e; subst e
      rw [atKey_put_same ho.isMap (k := .int .i64 (x : Int)) trivial, Option.some.inj hx]
    · rename_i e
      rw [atKey_put_other (by simpa using (show (x : Int) ≠ (i : Int) from by omega)), ha x u hx]
  · simp only at hx
    split at hx
    · omega
    · exact hN x hx
theorem IntMap.clear (h : IntMap P w b f N) {t e : TypeId} (ht : P.underlying t = some (.map 3 e)) (ty : TypeId) :
    ∃ w', (Builtin.clear_ #[t] ty #[.map (some b)]).run P w = .ok (.tuple #[]) w' ∧ IntMap P w' b (fun _ => none) N ∧ w.mapTurned w' b := by
  obtain ⟨n, D, ⟨es, clock, hb, F, hs, rfl⟩, hh, ha, hN⟩ := h
  refine ⟨setBlock w b (.map #[] clock), ?_, ?_, ⟨es, clock, #[], clock, hb, by simp [setBlock]⟩⟩
  · simp [Builtin.clear_, run_underlying ht, MapKept.run_getObj_map hb, MapKept.run_setObj_map _ hb, setBlock]
  · exact ⟨0, .map [], ⟨#[], clock, heap_setBlock_same hb _, ⟨by simp, stamped_empty clock, by simp⟩, Nat.le_refl _, rfl⟩, fun x => by simp [has], fun x v h => by simp at h, fun x h => by simp at h⟩
end Go.Proofs.Ytdkijmikafmgaaa.Dk
namespace Go.Proofs.Ytdkijmikafmgaaa.Dk
open Go.RowKit Go.Maps
set_option linter.unusedVariables false
set_option linter.unusedSimpArgs false

/-- A fact that the walk's simp doesn't look into. -/
structure Fact (p : Prop) : Prop where mk :: (out : p)

/-- From w to w' nothing that was there has turned but blocks of S. -/
structure Only (S : Nat → Prop) (w w' : World) : Prop where
  os : w'.os = w.os
  tape : w'.tape = w.tape
  output : w'.output = w.output
  size : w.heap.size ≤ w'.heap.size
  block : ∀ k, k < w.heap.size → ¬ S k → w'.heap[k]? = w.heap[k]?
theorem Only.refl (S : Nat → Prop) (w : World) : Only S w w := ⟨rfl, rfl, rfl, Nat.le_refl _, fun _ _ _ => rfl⟩
theorem Only.then_ {S S2 : Nat → Prop} {w w1 w2 : World} (h : Only S w w1) (k : Only S2 w1 w2) (hs : ∀ k, S2 k → S k ∨ w.heap.size ≤ k) : Only S w w2 :=
  ⟨k.os.trans h.os, k.tape.trans h.tape, k.output.trans h.output, Nat.le_trans h.size k.size, fun i hi hn =>
    (k.block i (Nat.lt_of_lt_of_le hi h.size) (fun hk => (hs i hk).elim hn (fun h2 => by omega))).trans (h.block i hi hn)⟩
theorem Only.trans {S : Nat → Prop} {w w1 w2 : World} (h : Only S w w1) (k : Only S w1 w2) : Only S w w2 := h.then_ k (fun _ hk => .inl hk)
theorem Only.mono {S S2 : Nat → Prop} {w w' : World} (h : Only S w w') (hs : ∀ k, S k → S2 k) : Only S2 w w' := ⟨h.os, h.tape, h.output, h.size, fun i hi hn => h.block i hi (fun hk => hn (hs i hk))⟩
theorem Only.of_below {w w' : World} (h : Below w.heap.size w w') (S : Nat → Prop) : Only S w w' := ⟨h.os, h.tape, h.output, h.size, fun i hi _ => h.block i hi⟩
theorem Only.below {S : Nat → Prop} {w w' : World} (h : Only S w w') {B : Nat} (hB : B ≤ w.heap.size) (hs : ∀ k, S k → B ≤ k) : Below B w w' :=
  ⟨h.os, h.tape, h.output, h.size, fun i hi => h.block i (by omega) (fun hk => by have := hs i hk; omega)⟩
theorem Only.alloc (S : Nat → Prop) (w : World) (o : Obj) : Only S w (w.alloc o) := Only.of_below ((Below.refl _ _).alloc (Nat.le_refl _) o) S
theorem Only.drew {S : Nat → Prop} {w w' : World} (h : Only S w w') : Only S w w'.drew := ⟨h.os, h.tape, h.output, h.size, h.block⟩
theorem Only.drewN {S : Nat → Prop} {w w' : World} (h : Only S w w') (n : Nat) : Only S w (w'.drewN n) := ⟨h.os, h.tape, h.output, h.size, h.block⟩
theorem Only.setCell {S : Nat → Prop} (w : World) {a : Addr} (ha : S a.block) (v : Value) : Only S w (w.setCell a v) :=
  ⟨rfl, rfl, rfl, by simp [World.setCell], fun i _ hn => Below.heap_setCell _ _ _ _ (fun e => hn (e ▸ ha))⟩
theorem Only.mapTurned {S : Nat → Prop} {w w' : World} {b : Nat} (h : w.mapTurned w' b) (hb : S b) : Only S w w' := by
  have g := h.grown
  exact ⟨g.os, g.tape, g.output, g.size, fun i hi hn => g.block i hi (fun e => hn (Option.some.inj e ▸ hb))⟩

/-- Where a disk lies: the struct, its sectors, its two maps. -/
structure DL where
  p : Nat
  bs : Nat
  bp : Nat
  bb : Nat
def DL.S (L : DL) (k : Nat) : Prop := k = L.p ∨ k = L.bs ∨ k = L.bp ∨ k = L.bb
def DL.ptr (L : DL) : Value := .pointer (some ⟨L.p, 0, none⟩)
theorem DL.S_p (L : DL) : L.S L.p := .inl rfl
theorem DL.S_bs (L : DL) : L.S L.bs := .inr (.inl rfl)
theorem DL.S_bp (L : DL) : L.S L.bp := .inr (.inr (.inl rfl))
theorem DL.S_bb (L : DL) : L.S L.bb := .inr (.inr (.inr rfl))

/-- A sector as a value. -/
def secV (b : List Int) : Value := .agg (b.map (Value.int .u8)).toArray
/-- The sectors' cells. -/
def StCells (cs : Array Value) (n : Nat) (st : Nat → List Int) : Prop := cs.size = 64 * n ∧ ∀ i j, i < n → j < 64 → cs[64 * i + j]? = some (.int .u8 ((st i).getD j 0))
def selfCells (L : DL) (n : Nat) (left : Int) (down : Bool) : Array Value := #[.slice (some ⟨L.bs, 0, none⟩) n n, .map (some L.bp), .map (some L.bb), .int .i64 left, .bool down]

structure IsDisk (w : World) (L : DL) (D : PD) : Prop where
  good : D.Good
  self : w.heap[L.p]? = some (.cells (selfCells L D.n D.left D.down) 90 (0, 0))
  stands : ∃ cs, w.heap[L.bs]? = some (.cells cs 117 (0, 0)) ∧ StCells cs D.n D.st
  pend : IntMap Try.prog w L.bp (fun i => (D.pe i).map secV) D.n
  bads : ∃ f : Nat → Option Bool, IntMap Try.prog w L.bb (fun i => (f i).map Value.bool) D.n ∧ ∀ i, D.bad i = (f i).getD false
  ne1 : L.p ≠ L.bs
  ne2 : L.bp ≠ L.bb
theorem IsDisk.move {w w' : World} {L : DL} {D : PD} (h : IsDisk w L D) (hm : ∀ k, L.S k → w'.heap[k]? = w.heap[k]?) : IsDisk w' L D := by
  obtain ⟨cs, h1, h2⟩ := h.stands
  obtain ⟨f, h3, h4⟩ := h.bads
  exact ⟨h.good, (hm _ L.S_p).trans h.self, ⟨cs, (hm _ L.S_bs).trans h1, h2⟩, h.pend.move (hm _ L.S_bp), ⟨f, h3.move (hm _ L.S_bb), h4⟩, h.ne1, h.ne2⟩
theorem IsDisk.lt {w : World} {L : DL} {D : PD} (h : IsDisk w L D) (k : Nat) (hk : L.S k) : k < w.heap.size := by
  rcases hk with rfl | rfl | rfl | rfl
  · exact (Array.getElem?_eq_some_iff.1 h.self).1
  · obtain ⟨cs, h1, _⟩ := h.stands; exact (Array.getElem?_eq_some_iff.1 h1).1
  · exact h.pend.lt
  · obtain ⟨f, h3, _⟩ := h.bads; exact h3.lt
/-- What is done elsewhere leaves the disk as it is. -/
theorem IsDisk.only {w w' : World} {L : DL} {D : PD} {S : Nat → Prop} (h : IsDisk w L D) (ho : Only S w w') (hs : ∀ k, L.S k → ¬ S k) : IsDisk w' L D :=
  h.move fun k hk => ho.block k (h.lt k hk) (hs k hk)
theorem IsDisk.below {w w' : World} {L : DL} {D : PD} (h : IsDisk w L D) (hb : Below w.heap.size w w') : IsDisk w' L D :=
  h.move fun k hk => hb.block k (h.lt k hk)
theorem IsDisk.alloc {w : World} {L : DL} {D : PD} (h : IsDisk w L D) (o : Obj) : IsDisk (w.alloc o) L D := h.below ((Below.refl _ _).alloc (Nat.le_refl _) o)
theorem IsDisk.drewN {w : World} {L : DL} {D : PD} (h : IsDisk w L D) (n : Nat) : IsDisk (w.drewN n) L D := h.move fun _ _ => rfl
theorem IsDisk.drew {w : World} {L : DL} {D : PD} (h : IsDisk w L D) : IsDisk w.drew L D := h.move fun _ _ => rfl

section
variable {w : World} {L : DL} {D : PD}
theorem IsDisk.c0 (h : IsDisk w L D) : w.cell? ⟨L.p, 0, none⟩ = some (.slice (some ⟨L.bs, 0, none⟩) D.n D.n) := by rw [cell_of_row w L.p 0 _ _ _ h.self]; rfl
theorem IsDisk.c1 (h : IsDisk w L D) : w.cell? ⟨L.p, 1, none⟩ = some (.map (some L.bp)) := by rw [cell_of_row w L.p 1 _ _ _ h.self]; rfl
theorem IsDisk.c2 (h : IsDisk w L D) : w.cell? ⟨L.p, 2, none⟩ = some (.map (some L.bb)) := by rw [cell_of_row w L.p 2 _ _ _ h.self]; rfl
theorem IsDisk.c3 (h : IsDisk w L D) : w.cell? ⟨L.p, 3, none⟩ = some (.int .i64 D.left) := by rw [cell_of_row w L.p 3 _ _ _ h.self]; rfl
theorem IsDisk.c4 (h : IsDisk w L D) : w.cell? ⟨L.p, 4, none⟩ = some (.bool D.down) := by rw [cell_of_row w L.p 4 _ _ _ h.self]; rfl
theorem IsDisk.f (h : IsDisk w L D) (j : Nat) : w.frozen? ⟨L.p, j, none⟩ = false := frozen_of_row w L.p j _ _ h.self
theorem IsDisk.ne_maps (h : IsDisk w L D) : L.p ≠ L.bp ∧ L.p ≠ L.bb ∧ L.bs ≠ L.bp ∧ L.bs ≠ L.bb := by
  obtain ⟨cs, h1, _⟩ := h.stands
  obtain ⟨f, ⟨_, _, ⟨es, c, hb, _⟩, _⟩, _⟩ := h.bads
  obtain ⟨_, _, ⟨es2, c2, hp, _⟩, _⟩ := h.pend
  have h0 := h.self
  refine ⟨fun e => ?_, fun e => ?_, fun e => ?_, fun e => ?_⟩
  · rw [e, hp] at h0; cases h0
  · rw [e, hb] at h0; cases h0
  · rw [e, hp] at h1; cases h1
  · rw [e, hb] at h1; cases h1
theorem IsDisk.setSelf (h : IsDisk w L D) (i : Nat) (v : Value) (left : Int) (down : Bool) (he : (selfCells L D.n D.left D.down).setIfInBounds i v = selfCells L D.n left down) (hl : -1 ≤ left) (hh : left < 9223372036854775808) :
    IsDisk (w.setCell ⟨L.p, i, none⟩ v) L { D with left := left, down := down } := by
  obtain ⟨n1, n2, n3, n4⟩ := h.ne_maps
  obtain ⟨cs, h1, h2⟩ := h.stands
  obtain ⟨f, h3, h4⟩ := h.bads
  have hs : ∀ k, k ≠ L.p → (w.setCell ⟨L.p, i, none⟩ v).heap[k]? = w.heap[k]? := fun k hk => heap_setCell_other w _ k v hk
  refine ⟨⟨h.good.one, h.good.most, hl, hh, h.good.full, h.good.fullp⟩, ?_, ⟨cs, (hs _ (Ne.symm h.ne1)).trans h1, h2⟩, h.pend.move (hs _ (Ne.symm n1)), ⟨f, h3.move (hs _ (Ne.symm n2)), h4⟩, h.ne1, h.ne2⟩
  rw [heap_setCell_same w L.p i _ _ v h.self, he]
theorem IsDisk.setLeft (h : IsDisk w L D) (k : Int) (hl : -1 ≤ k) (hh : k < 9223372036854775808) : IsDisk (w.setCell ⟨L.p, 3, none⟩ (.int .i64 k)) L { D with left := k } :=
  h.setSelf 3 _ k D.down rfl hl hh
theorem IsDisk.setDown (h : IsDisk w L D) (b : Bool) : IsDisk (w.setCell ⟨L.p, 4, none⟩ (.bool b)) L { D with down := b } :=
  h.setSelf 4 _ D.left b rfl h.good.lo h.good.hi
end
end Go.Proofs.Ytdkijmikafmgaaa.Dk
namespace Go.Proofs.Ytdkijmikafmgaaa.Dk
open Go.RowKit Go.Maps
set_option linter.unusedVariables false
set_option linter.unusedSimpArgs false

theorem ret_bool {a b : Bool} (h : a = b) : Ending.returned (.bool a) = .returned (.bool b) := by rw [h]
theorem ret_int {k : IntKind} {a b : Int} (h : a = b) : Ending.returned (.int k a) = .returned (.int k b) := by rw [h]
theorem there_any {w : World} {L : DL} {D : PD} (h : IsDisk w L D) (i : Int) :
    Calls Try.prog 50 #[.pointer (some ⟨L.p, 0, none⟩), .int .i64 i] w fun e w' => e = .returned (.bool (D.there i)) ∧ w = w' := by
  have c0 := h.c0
  have H := Lib.hid h
  clear h
  go_enter Try.func50, Try.ntmps50
  go_wp2
  all_goals
    go_ret
    refine ⟨ret_bool ?_, rfl⟩
    simp only [PD.there]
    simp
    try omega
theorem Len_any {w : World} {L : DL} {D : PD} (h : IsDisk w L D) :
    Calls Try.prog 39 #[.pointer (some ⟨L.p, 0, none⟩)] w fun e w' => e = .returned (.int .i64 (D.n : Int)) ∧ w = w' := by
  have c0 := h.c0
  have H := Lib.hid h
  clear h
  go_enter Try.func39, Try.ntmps39
  go_wp2
  go_ret
  exact ⟨rfl, rfl⟩
theorem Down_any {w : World} {L : DL} {D : PD} (h : IsDisk w L D) :
    Calls Try.prog 14 #[.pointer (some ⟨L.p, 0, none⟩)] w fun e w' => e = .returned (.bool D.down) ∧ w = w' := by
  have c4 := h.c4
  have H := Lib.hid h
  clear h
  go_enter Try.func14, Try.ntmps14
  go_wp2
  go_ret
  exact ⟨rfl, rfl⟩
/-- What a call on the disk leaves: the disk as told, and all else as it was. -/
def Now (w : World) (L : DL) (D : PD) (w' : World) : Prop := IsDisk w' L D ∧ Only L.S w w'
theorem armed {w : World} {L : DL} {D : PD} (h : IsDisk w L D) {k v : Int} (hk : k < 9223372036854775808) (hv : v = max k (-1)) : IsDisk (w.setCell ⟨L.p, 3, none⟩ (.int .i64 v)) L (D.arm k) := by
  subst hv
  exact h.setLeft _ (by omega) (by omega)
theorem called {w : World} {L : DL} {D : PD} (h : IsDisk w L D) {v : Int} (hv : v = max (D.left - 1) (-1)) : IsDisk ((w.setCell ⟨L.p, 4, none⟩ (.bool (D.left == 0))).setCell ⟨L.p, 3, none⟩ (.int .i64 v)) L D.call := by
  subst hv
  have hh := h.good.hi
  exact (h.setDown (D.left == 0)).setLeft _ (by omega) (by omega)
theorem Arm_any {w : World} {L : DL} {D : PD} (h : IsDisk w L D) (k : Int) (hk : k < 9223372036854775808) :
    Calls Try.prog 13 #[.pointer (some ⟨L.p, 0, none⟩), .int .i64 k] w fun e w' => e = .returned (.tuple #[]) ∧ Now w L (D.arm k) w' := by
  have c3 := h.c3
  have f3 := h.f 3
  have H := Lib.hid h
  have HK := Lib.hid hk
  clear h hk
  go_enter Try.func13, Try.ntmps13
  go_wp2
  all_goals
    go_end0
    exact ⟨rfl, armed H.out HK.out (by omega), Only.setCell w L.S_p _⟩
theorem call_any {w : World} {L : DL} {D : PD} (h : IsDisk w L D) :
    Calls Try.prog 76 #[.pointer (some ⟨L.p, 0, none⟩)] w fun e w' => e = .returned (.bool (!D.call.down)) ∧ Now w L D.call w' := by
  have c3 := h.c3
  have c4 := h.c4
  have f3 := h.f 3
  have f4 := h.f 4
  have hl : -1 ≤ D.left := h.good.lo
  have hh : D.left ≤ 9223372036854775807 := by have := h.good.hi; omega
  have H := Lib.hid h
  clear h
  go_enter Try.func76, Try.ntmps76
  go_wp2
  all_goals
    go_ret
    exact ⟨rfl, called H.out (by omega), (Only.setCell w L.S_p _).trans (Only.setCell _ L.S_p _)⟩
end Go.Proofs.Ytdkijmikafmgaaa.Dk
namespace Go.Proofs.Ytdkijmikafmgaaa.Dk
open Go.RowKit Go.Maps
set_option linter.unusedVariables false
set_option linter.unusedSimpArgs false

def zc : Array Value := (List.replicate 64 (Value.int .u8 0)).toArray
def zsec : Value := .agg zc
theorem zc_size : zc.size = 64 := by simp [zc]
theorem info_sec : (Try.prog.info? 117).map (fun i => (i.zero, i.size, i.bytes)) = some (some zsec, 64, 64) := by kernel_rfl
theorem made_sec (n : Nat) (h1 : n ≤ 4096) : ∀ W : World, (Instr.makeSlice 87 (.int .i64 (n : Int)) (.int .i64 (n : Int))).run Try.prog W = .ok (.slice (some ⟨W.heap.size, 0, none⟩) n n) (W.alloc (.cells (madeCells zc (n * 64)) 117)) := by
  intro W
  obtain ⟨i0, hi, hzz⟩ := Option.map_eq_some_iff.1 info_sec
  simp only [Prod.mk.injEq] at hzz
  obtain ⟨hz0, hz1, hz2⟩ := hzz
  have := run_make (P := Try.prog) W 87 117 i0 zsec Try.underlying87 hi hz0 .i64 .i64 (n : Int) (n : Int) (by omega) (Int.le_refl _) (by rw [hz2]; omega) (by omega)
  rw [hz1, show zsec.cells = zc from rfl] at this
  simpa using this
theorem stcells_new (n : Nat) : StCells (madeCells zc (n * 64)) n (PD.new n).st := by
  have hz := zc_size
  refine ⟨by rw [size_madeCells]; omega, fun i j hi hj => ?_⟩
  have hlt : 64 * i + j < n * 64 := by omega
  have h1 : (madeCells zc (n * 64))[64 * i + j]? = some (zc[(64 * i + j) % zc.size]!) := by
    simp [madeCells, hlt]
  have h2 : (64 * i + j) % zc.size = j := by rw [hz]; omega
  have h3 : zc[j]! = Value.int .u8 0 := by
    rw [getElem!_pos zc j (by rw [hz]; exact hj)]
    show (List.replicate 64 (Value.int .u8 0)).toArray[j]'(by simpa using hj) = _
    rw [List.getElem_toArray, List.getElem_replicate]
  rw [h1, h2, h3]
  have h4 : ((PD.new n).st i).getD j 0 = 0 := by
    show (List.replicate 64 (0 : Int)).getD j 0 = 0
    rw [List.getD_eq_getElem?_getD, List.getElem?_replicate, if_pos hj]; rfl
  rw [h4]
theorem New_bad {w : World} {n : Int} (h : n < 1 ∨ 4096 < n) :
    Calls Try.prog 30 #[.int .i64 n] w fun e w' => e = .returned (.pointer none) ∧ w = w' := by
  by_cases h1 : n < 1
  · clear h
    go_enter Try.func30, Try.ntmps30
    go_wp2
    go_ret
    exact ⟨rfl, rfl⟩
  · have h2 : 4096 < n := by omega
    clear h
    go_enter Try.func30, Try.ntmps30
    go_wp2
    go_ret
    exact ⟨rfl, rfl⟩
theorem heap_allocs4 (w : World) (a b c d : Obj) : ((((w.alloc a).alloc b).alloc c).alloc d).heap = (((w.heap.push a).push b).push c).push d := rfl
theorem New_good {w : World} {n : Nat} (h1 : 1 ≤ n) (h2 : n ≤ 4096) :
    Calls Try.prog 30 #[.int .i64 (n : Int)] w fun e w' => ∃ L : DL, e = .returned (.pointer (some ⟨L.p, 0, none⟩)) ∧ IsDisk w' L (PD.new n) ∧ (∀ k, L.S k → w.heap.size ≤ k) ∧ Below w.heap.size w w' := by
  have hm := made_sec n h2
  have hmm := @run_makeMap Try.prog
  go_enter Try.func30, Try.ntmps30
  go_wp2
  go_ret
  refine ⟨⟨w.heap.size + 3, w.heap.size, w.heap.size + 1, w.heap.size + 2⟩, ?_, ?_, ?_, ?_⟩
  · rfl
  · have n0 : ∀ (W : World) (o : Obj), (W.alloc o).heap[W.heap.size]? = some o := fun W o => heap_alloc_new W o
    have g3 : ∀ o1 o2 o3 o4 : Obj, ((((w.alloc o1).alloc o2).alloc o3).alloc o4).heap[w.heap.size + 3]? = some o4 := fun o1 o2 o3 o4 => by have := n0 (((w.alloc o1).alloc o2).alloc o3) o4; simpa using this
    have g2 : ∀ o1 o2 o3 o4 : Obj, ((((w.alloc o1).alloc o2).alloc o3).alloc o4).heap[w.heap.size + 2]? = some o3 := fun o1 o2 o3 o4 => by rw [Below.heap_alloc _ _ _ (by simp)]; have := n0 ((w.alloc o1).alloc o2) o3; simpa using this
    have g1 : ∀ o1 o2 o3 o4 : Obj, ((((w.alloc o1).alloc o2).alloc o3).alloc o4).heap[w.heap.size + 1]? = some o2 := fun o1 o2 o3 o4 => by rw [Below.heap_alloc _ _ _ (by simp), Below.heap_alloc _ _ _ (by simp)]; have := n0 (w.alloc o1) o2; simpa using this
    have g0 : ∀ o1 o2 o3 o4 : Obj, ((((w.alloc o1).alloc o2).alloc o3).alloc o4).heap[w.heap.size]? = some o1 := fun o1 o2 o3 o4 => by rw [Below.heap_alloc _ _ _ (by simp; omega), Below.heap_alloc _ _ _ (by simp; omega), Below.heap_alloc _ _ _ (by simp)]; exact n0 w o1
    have m0 : ∀ W : World, ∀ b, W.heap[b]? = some (.map #[] 0) → IntMap Try.prog W b (fun _ => none) n := fun W b hb => IntMap.empty _ W b n hb
    refine ⟨PD.Good.new h1 h2, g3 _ _ _ _, ⟨_, g0 _ _ _ _, stcells_new n⟩, ?_, ⟨fun _ => none, ?_, fun _ => rfl⟩, by simp, by simp⟩
    · exact m0 _ _ (g1 _ _ _ _)
    · exact m0 _ _ (g2 _ _ _ _)
  · rintro k (rfl | rfl | rfl | rfl) <;> simp
  · exact ((((Below.refl _ _).alloc (Nat.le_refl _) _).alloc (by simp) _).alloc (by simp; omega) _).alloc (by simp; omega) _
end Go.Proofs.Ytdkijmikafmgaaa.Dk
namespace Go.Proofs.Ytdkijmikafmgaaa.Dk
open Go.RowKit Go.Maps Go.Proofs.YtdkijmikafmgaaaW.PrintWords Go.Proofs.YtdkijmikafmgaaaW.PrintLast Go.Proofs.YtdkijmikafmgaaaW.PrintMore
set_option linter.unusedVariables false
set_option linter.unusedSimpArgs false

theorem info_u8 : (Try.prog.info? 5).map (fun i => (i.zero, i.size, i.bytes)) = some (some (.int .u8 0), 1, 1) := by kernel_rfl
/-- A row of bytes of one's own. -/
abbrev OwnB (w : World) (base : Nat) (ok : Nat → Prop) (v : Value) (l : List Int) : Prop := Kd.R (Kd.int .u8) 5 w base ok v l
/-- Bytes that are read. -/
abbrev ReadB (w : World) (A : Option Addr) (n : Nat) (l : List Int) : Prop := Kd.C (Kd.int .u8) w A n l
theorem own_only {α : Type} {d : Kd α} {e : Nat} {w w' : World} {base : Nat} {ok S : Nat → Prop} {v : Value} {xs : List α} (h : d.R e w base ok v xs) (ho : Only S w w') (hs : ∀ k, ok k → ¬ S k) : d.R e w' base ok v xs :=
  Kd.R_step h fun k hk hl => ho.block k hl (hs k hk)
theorem read_below {α : Type} {d : Kd α} {w w' : World} {A : Option Addr} {n : Nat} {xs : List α} (h : d.C w A n xs) (hb : Below w.heap.size w w') : d.C w' A n xs := Kd.C_below h hb
theorem R_made0 (w : World) (e : Nat) : Kd.R (Kd.int .u8) e (w.alloc (.cells #[] e)) w.heap.size (fun _ => True) (.slice (some ⟨w.heap.size, 0, none⟩) 0 0) [] :=
  ⟨fun _ _ => trivial, [], ⟨rfl, .inr ⟨w.heap.size, 0, #[], rfl, Nat.le_refl _, blk_new _ _, Nat.le_refl _, by decide, rfl, rfl⟩⟩, ⟨rfl, fun j p h => by simp at h⟩⟩
set_option maxHeartbeats 1000000 in
set_option maxRecDepth 100000 in
theorem Clone_bytes (A0 : Option Addr) (c0 : Nat) (l0 : List Int) (w : World) (hl : l0.length < 140737488355328) (hr0 : ReadB w A0 l0.length l0) :
    Calls Try.prog 68 #[.slice A0 l0.length c0] w fun e w' => ∃ v0_ : Value, e = .returned (v0_) ∧ OwnB w' w.heap.size (fun _ => True) v0_ l0 ∧ Below w.heap.size w w' := by
  have HL := Lib.hid hl
  clear hl
  have HC := Lib.hid hr0
  clear hr0
  cases A0 with
  | none =>
    have he := fun (w : World) => Lib.run_eql_slice_nil (P := Try.prog) w 37 5 none l0.length c0 0 0 Try.underlying37
    go_enter Try.func68, Try.ntmps68
    go_wp2
    clear he
    have hnil : l0 = [] := by
      rcases Nat.eq_zero_or_pos l0.length with h0 | h0
      · exact List.length_eq_zero_iff.1 h0
      · obtain ⟨ad, h1, _⟩ := HC.2.2 h0; cases h1
    go_ret
    exact ⟨_, rfl, by rw [hnil]; exact Kd.R_nil _ _ _ _ _, Below.refl _ _⟩
  | some ad =>
    have he := fun (w : World) => Lib.run_eql_slice_nil (P := Try.prog) w 37 5 (some ad) l0.length c0 0 0 Try.underlying37
    go_enter Try.func68, Try.ntmps68
    go_wp2_with ((with_reducible refine gate_builtin (b := .append) (xs := #[.tmp 5, .tmp 6]) rfl ?_); at_builtin; refine Kd.R_append_rows (Kd.int .u8) (w0 := w) w.heap.size rfl (.tmp 5) (.tmp 6) 37 5 (.int .u8 0) 1 rfl Try.underlying37 info_u8 rfl (by decide) (by omega) (.slice (some ⟨w.heap.size, 0, none⟩) 0 0) [] l0 (some ad) l0.length c0 (fun _ => True) (fun _ => False) rfl rfl ?aO ?aR (fun _ _ h => h) (fun _ h => h.elim) ?aF ?aB ?aS ?aL ?_; (case aR => exact Kd.C_alloc HC.out _); (case aO => exact R_made0 w 5); (case aF => exact fun _ _ => trivial); (case aB => exact below_alloc (Below.refl _ _) _); (case aS => simp); (case aL => have := HL.out; simp; omega); intro v1 w1 ho hb hg hat; have HO := Aside0.mk ho; have HB := Aside0.mk hb; clear ho hb hg hat)
    go_ret
    exact ⟨_, rfl, HO.out, HB.out⟩
end Go.Proofs.Ytdkijmikafmgaaa.Dk
namespace Go.Proofs.Ytdkijmikafmgaaa.Dk
open Go.RowKit Go.Maps Go.Proofs.YtdkijmikafmgaaaW.PrintWords Go.Proofs.YtdkijmikafmgaaaW.PrintLast Go.Proofs.YtdkijmikafmgaaaW.PrintMore
set_option linter.unusedVariables false
set_option linter.unusedSimpArgs false

/-- What 'Read' comes to: the bytes, and an error's number. -/
def ReadsTo (w : World) (r : List Int × Int) (e : Ending) (w' : World) : Prop :=
  ∃ v, e = .returned (.tuple #[v, .int .i64 r.2]) ∧ OwnB w' w.heap.size (fun k => w.heap.size ≤ k) v r.1 ∧ Below w.heap.size w w'
theorem zero_bool (w : World) : (zeroValue 4).run Try.prog w = .ok (.bool false) w := by kernel_rfl
theorem zero_sec (w : World) : (zeroValue 117).run Try.prog w = .ok zsec w := by kernel_rfl
theorem int_t : Try.prog.underlying 3 = some (.int .i64) := Try.underlying3
theorem IsDisk.look_bad {w : World} {L : DL} {D : PD} (h : IsDisk w L D) (i : Nat) (hi : i < 9223372036854775808) :
    (Instr.lookup 77 (.map (some L.bb)) (.int .i64 (i : Int)) false).run Try.prog w = .ok (.bool (D.bad i)) w := by
  obtain ⟨f, h3, h4⟩ := h.bads
  rw [h3.look int_t Try.underlying77 (zero_bool w) i hi, h4 i]
  cases f i <;> rfl
theorem IsDisk.look_pend {w : World} {L : DL} {D : PD} (h : IsDisk w L D) (i : Nat) (hi : i < 9223372036854775808) :
    (Instr.lookup 88 (.map (some L.bp)) (.int .i64 (i : Int)) true).run Try.prog w = .ok (.tuple #[((D.pe i).map secV).getD zsec, .bool (D.pe i).isSome]) w := by
  rw [h.pend.look_ok int_t Try.underlying88 (zero_sec w) i hi]
  cases D.pe i <;> rfl
theorem store_new (W : World) (Z cs : Array Value) (t : TypeId) (hs : Z.size = cs.size) (h1 : ∀ v ∈ cs.toList, v.oneCell' = true) :
    (storeCells ⟨W.heap.size, 0, none⟩ cs.toList).run Try.prog (W.alloc (.cells Z t)) = .ok () (W.alloc (.cells cs t)) := by
  have := run_storeCells_from (P := Try.prog) W.heap.size t cs.toList 0 Z (W.alloc (.cells Z t)) (heap_alloc_new W _) (by simp [hs]) h1
  rw [this, List.take_zero, List.nil_append, Array.toArray_toList, World.setRow_alloc_new]
theorem one_bytes (b : List Int) : ∀ v ∈ (b.map (Value.int .u8)).toArray.toList, v.oneCell' = true := by
  intro v hv
  obtain ⟨x, _, rfl⟩ := List.mem_map.1 (by simpa using hv)
  rfl
theorem reads_new (W : World) (b : List Int) (t : TypeId) (hb : b.length ≤ 9223372036854775807) : ReadB (W.alloc (.cells (b.map (Value.int .u8)).toArray t)) (some ⟨W.heap.size, 0, none⟩) b.length b := by
  refine ⟨rfl, hb, fun _ => ⟨_, rfl, fun j p hp => ⟨[.int .u8 p], rfl, rfl, fun i u hu => ?_⟩⟩⟩
  have hi : i = 0 := by rcases i with _ | i; rfl; simp at hu
  subst hi
  have hu : Value.int .u8 p = u := by simpa using hu
  subst hu
  have h2 : (⟨W.heap.size, 0, none⟩ : Addr).add (j * (Kd.int .u8).sz + 0) = ⟨W.heap.size, j, none⟩ := by
    show (⟨W.heap.size, 0, none⟩ : Addr).add (j * 1 + 0) = _
    rw [Nat.mul_one, Nat.add_zero]; exact add_plain _ _
  rw [h2, cell_of_row _ _ _ _ _ _ (heap_alloc_new W _)]
  simp [hp]
set_option maxRecDepth 100000 in
theorem Read_some {w : World} {L : DL} {D : PD} (h : IsDisk w L D) (i : Nat) (hi : i < D.n) (hd : D.down = false) (hb : D.bad i = false) (b : List Int) (hp : D.pe i = some b) :
    Calls Try.prog 55 #[.pointer (some ⟨L.p, 0, none⟩), .int .i64 (i : Int)] w (ReadsTo w (b, 0)) := by
  have c0 := h.c0
  have c1 := h.c1
  have c2 := h.c2
  have c4 := h.c4
  rw [hd] at c4
  have hn : D.n ≤ 4096 := h.good.most
  have l1 := h.look_bad i (by omega)
  rw [hb] at l1
  have l2 := h.look_pend i (by omega)
  rw [hp] at l2
  have ht : D.there (i : Int) = true := by rw [PD.there_iff]; omega
  simp only [Option.map_some, Option.getD_some, Option.isSome_some, secV] at l2
  have hbl : b.length = 64 := (h.good.fullp i b hp).2
  have HT := there_any h (i : Int)
  rw [ht] at HT
  have HT := Fact.mk HT
  have H := Lib.hid h
  generalize hcs : (b.map (Value.int .u8)).toArray = cs at *
  have hsz : cs.size = 64 := by rw [← hcs]; simp [hbl]
  have hst : ∀ (W : World) (Z : Array Value), Z.size = 64 → (storeCells ⟨W.heap.size, 0, none⟩ cs.toList).run Try.prog (W.alloc (.cells Z 117)) = .ok () (W.alloc (.cells cs 117)) :=
    fun W Z hZ => store_new W Z cs _ (by omega) (by rw [← hcs]; exact one_bytes b)
  have hcl : Fact (Calls Try.prog 68 #[.slice (some ⟨w.heap.size, 0, none⟩) 64 64] (w.alloc (.cells cs 117)) fun e w' => ∃ v0_ : Value, e = .returned (v0_) ∧ OwnB w' (w.alloc (.cells cs 117)).heap.size (fun _ => True) v0_ b ∧ Below (w.alloc (.cells cs 117)).heap.size (w.alloc (.cells cs 117)) w') := by
    have := Clone_bytes (some ⟨w.heap.size, 0, none⟩) 64 b (w.alloc (.cells cs 117)) (by omega) (by rw [← hcs]; exact reads_new w b _ (by omega))
    rw [hbl] at this
    exact ⟨this⟩
  clear h hd hb hp ht hbl hcs
  go_enter Try.func55, Try.ntmps55
  go_wp2_with (first | (go_at_call 50; refine HT.out.mono ?_; rintro e w' ⟨rfl, rfl⟩) | (go_at_call 68; refine hcl.out.mono ?_; rintro e w' ⟨v, rfl, ho, hbw⟩; have HO := Fact.mk ho; have HBW := Fact.mk hbw; clear ho hbw))
  go_ret2
  refine ⟨v, rfl, ?_, ?_⟩
  · exact Kd.R_mono (Kd.R_lower (Kd.R_bound HO.out) (by simp)) (fun k hk => by have := hk.2.1; simp at this; omega)
  · exact ((Below.refl _ _).alloc (Nat.le_refl _) _).trans (HBW.out.mono (by simp))
theorem size_sec : (Try.prog.info? 117).map (·.size) = some 64 := by kernel_rfl
theorem IsDisk.range {w : World} {L : DL} {D : PD} (h : IsDisk w L D) (i : Nat) (hi : i < D.n) : w.rangeAt L.bs (i * 64) ((D.st i).map (Value.int .u8)) := by
  obtain ⟨cs, h1, h2, h3⟩ := h.stands
  have hf := h.good.full i
  intro j v hv
  have hj : j < 64 := by
    have := (List.getElem?_eq_some_iff.1 hv).1
    rw [List.length_map, hf] at this; exact this
  rw [cell_of_row w L.bs _ _ _ _ h1, Nat.mul_comm i 64, h3 i j hi hj]
  rw [List.getElem?_map] at hv
  rw [List.getD_eq_getElem?_getD]
  cases hq : (D.st i)[j]? with
  | none => rw [hq] at hv; cases hv
  | some x => rw [hq] at hv; exact hv
theorem IsDisk.load_st {w : World} {L : DL} {D : PD} (h : IsDisk w L D) (i : Nat) (hi : i < D.n) : (Instr.loadAt 117 (.pointer (some ⟨L.bs, i * 64, none⟩))).run Try.prog w = .ok (.agg ((D.st i).map (Value.int .u8)).toArray) w :=
  run_loadAt_mid w L.bs (i * 64) _ _ _ (h.range i hi) Try.underlying117 rfl (by rw [size_sec, List.length_map, h.good.full i])
set_option maxRecDepth 100000 in
theorem Read_none {w : World} {L : DL} {D : PD} (h : IsDisk w L D) (i : Nat) (hi : i < D.n) (hd : D.down = false) (hb : D.bad i = false) (hp : D.pe i = none) :
    Calls Try.prog 55 #[.pointer (some ⟨L.p, 0, none⟩), .int .i64 (i : Int)] w (ReadsTo w (D.st i, 0)) := by
  have c0 := h.c0
  have c1 := h.c1
  have c2 := h.c2
  have c4 := h.c4
  rw [hd] at c4
  have hn : D.n ≤ 4096 := h.good.most
  have c0' : ∀ o, (w.alloc o).cell? ⟨L.p, 0, none⟩ = some (.slice (some ⟨L.bs, 0, none⟩) D.n D.n) := fun o => (h.alloc o).c0
  have HR : Fact (∀ o, (w.alloc o).rangeAt L.bs (i * 64) ((D.st i).map (Value.int .u8))) := ⟨fun o => (h.alloc o).range i hi⟩
  have l1 := h.look_bad i (by omega)
  rw [hb] at l1
  have l2 := h.look_pend i (by omega)
  rw [hp] at l2
  have ht : D.there (i : Int) = true := by rw [PD.there_iff]; omega
  simp only [Option.map_none, Option.getD_none, Option.isSome_none, zsec] at l2
  have hbl : (D.st i).length = 64 := h.good.full i
  have HT := Fact.mk (there_any h (i : Int))
  rw [ht] at HT
  have H := Lib.hid h
  generalize hst0 : D.st i = b at *
  have HCS0 := hst0
  generalize hcs : (b.map (Value.int .u8)).toArray = cs at *
  have HI : Fact ((Try.prog.info? 117).map (·.size) = some (b.map (Value.int .u8)).length) := ⟨by rw [size_sec, List.length_map, hbl]⟩
  have hsz : cs.size = 64 := by rw [← hcs]; simp [hbl]
  have hzz : zc.size = 64 := zc_size
  have hst : ∀ (W : World) (Z : Array Value), Z.size = 64 → (storeCells ⟨W.heap.size, 0, none⟩ cs.toList).run Try.prog (W.alloc (.cells Z 117)) = .ok () (W.alloc (.cells cs 117)) :=
    fun W Z hZ => store_new W Z cs _ (by omega) (by rw [← hcs]; exact one_bytes b)
  have hst2 : ∀ (W : World) (Z : Array Value), Z.size = 64 → (storeCells ⟨W.heap.size, 0, none⟩ zc.toList).run Try.prog (W.alloc (.cells Z 117)) = .ok () (W.alloc (.cells zc 117)) :=
    fun W Z hZ => store_new W Z zc _ (by rw [zc_size]; omega) (by intro v hv; rw [List.eq_of_mem_replicate (show v ∈ List.replicate 64 (Value.int .u8 0) from by simpa [zc] using hv)]; rfl)
  have hcl : Fact (Calls Try.prog 68 #[.slice (some ⟨w.heap.size, 0, none⟩) 64 64] (w.alloc (.cells cs 117)) fun e w' => ∃ v0_ : Value, e = .returned (v0_) ∧ OwnB w' (w.alloc (.cells cs 117)).heap.size (fun _ => True) v0_ b ∧ Below (w.alloc (.cells cs 117)).heap.size (w.alloc (.cells cs 117)) w') := by
    have := Clone_bytes (some ⟨w.heap.size, 0, none⟩) 64 b (w.alloc (.cells cs 117)) (by omega) (by rw [← hcs]; exact reads_new w b _ (by omega))
    rw [hbl] at this
    exact ⟨this⟩
  have HCS := Fact.mk hcs
  clear h hd hb hp ht hbl hcs c0 hst0 HCS0
  go_enter Try.func55, Try.ntmps55
  go_wp2_with (first | (refine wpList_load_mid rfl 117 (.tmp 41) rfl L.bs (i * 64) rfl (b.map (Value.int .u8)) _ (HR.out _) Try.underlying117 rfl HI.out ?_; rw [HCS.out]) | (go_at_call 50; refine HT.out.mono ?_; rintro e w' ⟨rfl, rfl⟩) | (go_at_call 68; refine hcl.out.mono ?_; rintro e w' ⟨v, rfl, ho, hbw⟩; have HO := Fact.mk ho; have HBW := Fact.mk hbw; clear ho hbw))
  go_ret2
  refine ⟨v, rfl, ?_, ?_⟩
  · exact Kd.R_mono (Kd.R_lower (Kd.R_bound HO.out) (by simp)) (fun k hk => by have := hk.2.1; simp at this; omega)
  · exact ((Below.refl _ _).alloc (Nat.le_refl _) _).trans (HBW.out.mono (by simp))
theorem reads_err (w : World) (n : Int) : ReadsTo w ([], n) (.returned (.tuple #[.slice none 0 0, .int .i64 n])) w := ⟨_, rfl, Kd.R_nil _ _ _ _ _, Below.refl _ _⟩
theorem Read_down {w : World} {L : DL} {D : PD} (h : IsDisk w L D) (i : Int) (hd : D.down = true) :
    Calls Try.prog 55 #[.pointer (some ⟨L.p, 0, none⟩), .int .i64 i] w (ReadsTo w ([], 40)) := by
  have c4 := h.c4
  rw [hd] at c4
  clear h hd
  go_enter Try.func55, Try.ntmps55
  go_wp2
  go_ret2
  exact reads_err w 40
theorem Read_range {w : World} {L : DL} {D : PD} (h : IsDisk w L D) (i : Int) (hd : D.down = false) (ht : D.there i = false) :
    Calls Try.prog 55 #[.pointer (some ⟨L.p, 0, none⟩), .int .i64 i] w (ReadsTo w ([], 11)) := by
  have c4 := h.c4
  rw [hd] at c4
  have HT := Fact.mk (there_any h i)
  rw [ht] at HT
  clear h hd ht
  go_enter Try.func55, Try.ntmps55
  go_wp2_with (go_at_call 50; refine HT.out.mono ?_; rintro e w' ⟨rfl, rfl⟩)
  go_ret2
  exact reads_err w 11
theorem Read_bad {w : World} {L : DL} {D : PD} (h : IsDisk w L D) (i : Nat) (hi : i < D.n) (hd : D.down = false) (hb : D.bad i = true) :
    Calls Try.prog 55 #[.pointer (some ⟨L.p, 0, none⟩), .int .i64 (i : Int)] w (ReadsTo w ([], 41)) := by
  have c2 := h.c2
  have c4 := h.c4
  rw [hd] at c4
  have hn : D.n ≤ 4096 := h.good.most
  have l1 := h.look_bad i (by omega)
  rw [hb] at l1
  have ht : D.there (i : Int) = true := by rw [PD.there_iff]; omega
  have HT := Fact.mk (there_any h (i : Int))
  rw [ht] at HT
  clear h hd ht hb
  go_enter Try.func55, Try.ntmps55
  go_wp2_with (go_at_call 50; refine HT.out.mono ?_; rintro e w' ⟨rfl, rfl⟩)
  go_ret2
  exact reads_err w 41
/-- '(*Disk).Read'. -/
theorem Read_any {w : World} {L : DL} {D : PD} (h : IsDisk w L D) (i : Int) :
    Calls Try.prog 55 #[.pointer (some ⟨L.p, 0, none⟩), .int .i64 i] w (ReadsTo w (D.read i)) := by
  unfold PD.read
  cases hd : D.down with
  | true => rw [if_pos rfl]; exact Read_down h i hd
  | false =>
    rw [if_neg Bool.false_ne_true]
    cases ht : D.there i with
    | false => rw [if_pos rfl]; exact Read_range h i hd ht
    | true =>
      rw [if_neg (by simp)]
      have hi := (PD.there_iff D i).1 ht
      obtain ⟨k, rfl⟩ := Int.eq_ofNat_of_zero_le hi.1
      have hk : k < D.n := by omega
      rw [Int.toNat_natCast]
      cases hb : D.bad k with
      | true => rw [if_pos rfl]; exact Read_bad h k hk hd hb
      | false =>
        rw [if_neg Bool.false_ne_true]
        unfold PD.now
        cases hp : D.pe k with
        | some b => exact Read_some h k hk hd hb b hp
        | none => exact Read_none h k hk hd hb hp
end Go.Proofs.Ytdkijmikafmgaaa.Dk
namespace Go.Proofs.Ytdkijmikafmgaaa.Dk
open Go.RowKit Go.Maps Go.Proofs.YtdkijmikafmgaaaW.PrintWords Go.Proofs.YtdkijmikafmgaaaW.PrintLast Go.Proofs.YtdkijmikafmgaaaW.PrintMore
set_option linter.unusedVariables false
set_option linter.unusedSimpArgs false

section
variable {P : Program} {w : World} {ops : Array Oper} {rest : List Oper} {o : Oper} {a : Act} {Q : Exit → Act → World → Prop}
theorem wpList_put_map (hg : o.guard = none) (m x v : Operand) (t e : TypeId) (hop : o.op = Op.mapUpdate t m x v) (hi : P.underlying 3 = some (.int .i64)) (ht : P.underlying t = some (.map 3 e))
    (b N : Nat) (f : Nat → Option Value) (h : IntMap P w b f N) (hN2 : N < 9223372036854775807) (hm : a.eval m = .map (some b)) (i : Nat) (hx : a.eval x = .int .i64 (i : Int)) (hiN : i < N) (val : Value) (hv : a.eval v = val)
    (hK : ∀ w', IntMap P w' b (fun j => if j = i then some val else f j) N → w.mapTurned w' b → wpList P ops Q rest (a.put o.dst undef) w') : wpList P ops Q (o :: rest) a w := by
  refine wpList_plain hg fun K' hK' => ?_
  obtain ⟨w', hrun, r1, r2⟩ := h.store hi hN2 ht i hiN val
  unfold Oper.wp
  simp [execOp, hop, hm, hx, hv, hrun, Result.andThen]
  exact hK' _ _ (hK w' r1 r2)
end
section
variable {P : Program} {ops : Array Oper} {W : World} {Q : Act → Prop} {a : Act} {o : Oper} {rest : List Oper}
theorem wpStill_load_mid (hg : o.guard = none) (ty : TypeId) (x : Operand) (ho : o.op = .load ty x) (b off : Nat) (hx : a.eval x = .pointer (some ⟨b, off, none⟩)) (cs : List Value) (d : TypeDesc) (hc : W.rangeAt b off cs)
    (hu : P.underlying ty = some d) (hd : d.isRow = true) (hi : (P.info? ty).map (·.size) = some cs.length) (h : wpStill P ops W Q rest (a.put o.dst (.agg cs.toArray))) : wpStill P ops W Q (o :: rest) a := by
  unfold wpStill
  rw [if_pos (by simp [Region.wanted, hg])]
  unfold Oper.still execOp
  simp only [ho, hx, Instr.loadAt, Instr.sureAddr, Sem.run_bind, Sem.run_pure, Result.andThen_ok, run_loadVar_mid W b off ty cs d hc hu hd hi]
  exact ⟨rfl, h⟩
theorem region_tail {id : Nat} {Q : Exit → Act → World → Prop} {w : World} {l : List Oper} (n : Nat) (hm : P.follows .mixedOrders = true) (hB : Region.lexTailB .any l.toArray n = true)
    (h : ∀ W, W = w.drew → wpStill P l.toArray W (fun a' => wpList P l.toArray Q (l.drop n) a' W) (l.take n) a) : (Code.region id l.toArray true).wp P Q a w := wp_region_still_tail n hm hB (h _ rfl)
end
/-- Cells of a block, written from a place on. -/
theorem setCells_row (g : Nat) (t : TypeId) : ∀ (vs : List Value) (o : Nat) (cur : Array Value) (w : World), w.heap[g]? = some (.cells cur t (0, 0)) → o + vs.length ≤ cur.size →
    (w.setCells g o vs).heap[g]? = some (.cells (cur.toList.take o ++ vs ++ cur.toList.drop (o + vs.length)).toArray t (0, 0)) ∧ ∀ k, k ≠ g → (w.setCells g o vs).heap[k]? = w.heap[k]?
  | [], o, cur, w, hg, hl => by
    refine ⟨?_, fun _ _ => rfl⟩
    show w.heap[g]? = _
    rw [hg]
    simp
  | v :: r, o, cur, w, hg, hl => by
    have ho : o < cur.size := by simp at hl; omega
    obtain ⟨h1, h2⟩ := setCells_row g t r (o + 1) (cur.setIfInBounds o v) (w.setCell ⟨g, o, none⟩ v) (heap_setCell_same w g o cur t v hg) (by simp at hl ⊢; omega)
    refine ⟨?_, fun k hk => (h2 k hk).trans (heap_setCell_other w ⟨g, o, none⟩ k v hk)⟩
    show ((w.setCell ⟨g, o, none⟩ v).setCells g (o + 1) r).heap[g]? = _
    rw [h1]
    congr 2
    apply congrArg List.toArray
    have hlen : cur.toList.length = cur.size := by simp
    have e1 : (cur.toList.set o v).take (o + 1) = cur.toList.take o ++ [v] := by
      rw [List.take_succ_eq_append_getElem (by simp; omega), List.getElem_set_self, List.take_set_of_le (Nat.le_refl o)]
    have e2 : (cur.toList.set o v).drop (o + 1 + r.length) = cur.toList.drop (o + (r.length + 1)) := by
      rw [List.drop_set_of_lt (by omega)]; congr 1; omega
    simp only [Array.toList_setIfInBounds, List.length_cons]
    rw [e1, e2]
    simp
theorem setCells_new (W : World) (Z : Array Value) (t : TypeId) (vs : List Value) (h : vs.length ≤ Z.size) : (W.alloc (.cells Z t)).setCells W.heap.size 0 vs = W.alloc (.cells (vs ++ Z.toList.drop vs.length).toArray t) := by
  obtain ⟨h1, h2⟩ := setCells_row W.heap.size t vs 0 Z (W.alloc (.cells Z t)) (heap_alloc_new W _) (by omega)
  have hrest : ∀ (vs : List Value) (o : Nat) (w : World), (w.setCells W.heap.size o vs) = { w with heap := (w.setCells W.heap.size o vs).heap } := by
    intro vs
    induction vs with
    | nil => intro o w; rfl
    | cons v r ih => intro o w; exact ih (o + 1) (w.setCell ⟨W.heap.size, o, none⟩ v)
  have hh : ((W.alloc (.cells Z t)).setCells W.heap.size 0 vs).heap = (W.alloc (.cells (vs ++ Z.toList.drop vs.length).toArray t)).heap := by
    apply Array.ext_getElem?
    intro k
    rcases Nat.lt_trichotomy k W.heap.size with hk | rfl | hk
    · rw [h2 k (by omega), Below.heap_alloc _ _ _ hk, Below.heap_alloc _ _ _ hk]
    · rw [h1, heap_alloc_new]; simp
    · rw [h2 k (by omega), Array.getElem?_eq_none (by simp; omega), Array.getElem?_eq_none (by simp; omega)]
  rw [hrest vs 0 (W.alloc (.cells Z t)), hh]
  rfl
def zlist : List Value := List.replicate 64 (Value.int .u8 0)
theorem pad_cells {b : List Int} (hb : b.length ≤ 64) : b.map (Value.int .u8) ++ zlist.drop b.length = (pad b).map (Value.int .u8) := by
  rw [pad_le hb, List.map_append, List.map_replicate, zlist, List.drop_replicate]
theorem copy_new (W : World) (Z : Array Value) (hZ : Z.toList = zlist) (A : Option Addr) (c : Nat) (b : List Int) (ty : TypeId) (hb : b.length ≤ 64) (hr : ReadB W A b.length b) :
    (Builtin.copy_ #[37, 37] ty #[.slice (some ⟨W.heap.size, 0, none⟩) 64 64, .slice A b.length c]).run Try.prog (W.alloc (.cells Z 117)) = .ok (.int .i64 (b.length : Int)) (W.alloc (.cells ((pad b).map (Value.int .u8)).toArray 117)) := by
  have hs : (Try.prog.info? 5).map (·.size) = some 1 := by kernel_rfl
  have hZs : Z.size = 64 := by rw [← Array.length_toList, hZ]; simp [zlist]
  rcases Nat.eq_zero_or_pos b.length with h0 | h0
  · obtain rfl : b = [] := List.length_eq_zero_iff.1 h0
    have := run_copy_none (P := Try.prog) (W.alloc (.cells Z 117)) 37 37 ty 5 (some ⟨W.heap.size, 0, none⟩) A 64 64 0 c Try.underlying37 hs (by rfl)
    have hz : Z = ((pad []).map (Value.int .u8)).toArray := by
      apply Array.toList_inj.1
      rw [hZ, ← pad_cells (by simp)]; rfl
    rw [← hz]
    exact this
  · obtain ⟨ad, rfl, hc⟩ := hr.2.2 h0
    have hr2 := Kd.C_below hr ((Below.refl _ _).alloc (Nat.le_refl _) (.cells Z 117))
    have hlen : (b.map (Value.int .u8)).length = b.length := List.length_map ..
    have := run_copy_cells (P := Try.prog) (W.alloc (.cells Z 117)) 37 37 ty 5 W.heap.size 0 64 64 ad b.length c (b.map (Value.int .u8)) Try.underlying37 hs (by rw [hlen]; show b.length = min b.length 64; omega)
      (fun j v hv => by
        obtain ⟨ad2, e, hc2⟩ := hr2.2.2 h0
        cases e
        rw [List.getElem?_map] at hv
        cases hq : b[j]? with
        | none => rw [hq] at hv; cases hv
        | some x =>
          rw [hq] at hv
          obtain ⟨c', hc3, hc4, hc5⟩ := hc2 j x hq
          have := hc5 0 v (by rw [show c' = [.int .u8 x] from hc4]; exact hv)
          simpa [Kd.int, Kd.scalar] using this)
      (fun j hj => by rw [cell_of_row _ _ _ _ _ _ (heap_alloc_new W _), Array.getElem?_eq_getElem (by rw [hlen] at hj; omega)]; rfl)
      (fun j hj => frozen_of_row _ _ _ _ _ (heap_alloc_new W _)) (by intro v hv; obtain ⟨x, _, rfl⟩ := List.mem_map.1 hv; rfl)
    rw [hlen] at this
    rw [setCells_new W Z _ _ (by rw [hlen]; omega), hlen, hZ, pad_cells hb] at this
    exact this
theorem IsDisk.put {w w' : World} {L : DL} {D : PD} (h : IsDisk w L D) {i : Nat} (hi : i < D.n) {b : List Int} (hb : b.length = 64) (hm : IntMap Try.prog w' L.bp (fun j => if j = i then some (secV b) else (D.pe j).map secV) D.n) (ht : w.mapTurned w' L.bp) : IsDisk w' L (D.put i b) := by
  obtain ⟨n1, n2, n3, n4⟩ := h.ne_maps
  obtain ⟨cs, h1, h2⟩ := h.stands
  obtain ⟨f, h3, h4⟩ := h.bads
  have g := ht.grown
  have hs : ∀ k, k < w.heap.size → k ≠ L.bp → w'.heap[k]? = w.heap[k]? := fun k hk hn => g.block k hk (fun e => hn (Option.some.inj e))
  refine ⟨h.good.put hi hb, (hs _ (h.lt _ L.S_p) n1).trans h.self, ⟨cs, (hs _ (h.lt _ L.S_bs) n3).trans h1, h2⟩, ?_, ⟨f, h3.move (hs _ (h.lt _ L.S_bb) (Ne.symm h.ne2)), h4⟩, h.ne1, h.ne2⟩
  have e : (fun j => if j = i then some (secV b) else (D.pe j).map secV) = fun j => ((D.put i b).pe j).map secV := by
    funext j
    simp only [PD.put]
    split <;> rfl
  rw [← e]; exact hm
/-- What a call that ends in an error's number comes to. -/
def DoesTo (w : World) (L : DL) (r : Int × PD) (e : Ending) (w' : World) : Prop := e = .returned (.int .i64 r.1) ∧ Now w L r.2 w'
theorem Write_down {w : World} {L : DL} {D : PD} (h : IsDisk w L D) (i : Int) (A : Option Addr) (n c : Nat) (hd : D.down = true) :
    Calls Try.prog 66 #[.pointer (some ⟨L.p, 0, none⟩), .int .i64 i, .slice A n c] w (DoesTo w L (40, D)) := by
  have c4 := h.c4
  rw [hd] at c4
  have H := Lib.hid h
  clear h hd
  go_enter Try.func66, Try.ntmps66
  go_wp2
  go_ret
  exact ⟨rfl, H.out, Only.refl _ _⟩
theorem Write_range {w : World} {L : DL} {D : PD} (h : IsDisk w L D) (i : Int) (A : Option Addr) (n c : Nat) (hd : D.down = false) (ht : D.there i = false ∨ 64 < n) :
    Calls Try.prog 66 #[.pointer (some ⟨L.p, 0, none⟩), .int .i64 i, .slice A n c] w (DoesTo w L (11, D)) := by
  have c4 := h.c4
  rw [hd] at c4
  have HT := Fact.mk (there_any h i)
  have H := Lib.hid h
  rcases Bool.eq_false_or_eq_true (D.there i) with h1 | h1
  · have hn : (64 : Int) < (n : Int) := by
      rcases ht with h2 | h2
      · rw [h1] at h2; cases h2
      · omega
    rw [h1] at HT
    clear h hd ht h1
    go_enter Try.func66, Try.ntmps66
    go_wp2_with (go_at_call 50; refine HT.out.mono ?_; rintro e w' ⟨rfl, rfl⟩)
    go_ret
    exact ⟨rfl, H.out, Only.refl _ _⟩
  · rw [h1] at HT
    clear h hd ht h1
    go_enter Try.func66, Try.ntmps66
    go_wp2_with (go_at_call 50; refine HT.out.mono ?_; rintro e w' ⟨rfl, rfl⟩)
    go_ret
    exact ⟨rfl, H.out, Only.refl _ _⟩
theorem Write_falls {w : World} {L : DL} {D : PD} (h : IsDisk w L D) (i : Int) (A : Option Addr) (n c : Nat) (hd : D.down = false) (ht : D.there i = true) (hn : n ≤ 64) (hc : D.call.down = true) :
    Calls Try.prog 66 #[.pointer (some ⟨L.p, 0, none⟩), .int .i64 i, .slice A n c] w (DoesTo w L (40, D.call)) := by
  have c4 := h.c4
  rw [hd] at c4
  have HT := Fact.mk (there_any h i)
  rw [ht] at HT
  have HC := Fact.mk (call_any h)
  rw [hc] at HC
  clear h hd ht hc
  go_enter Try.func66, Try.ntmps66
  go_wp2_with (first | (go_at_call 50; refine HT.out.mono ?_; rintro e w' ⟨rfl, rfl⟩) | (go_at_call 76; refine HC.out.mono ?_; rintro e w1 ⟨rfl, h1⟩; have H1 := Fact.mk h1; clear h1))
  go_ret
  exact ⟨rfl, H1.out⟩
set_option maxRecDepth 100000 in
theorem Write_ok {w : World} {L : DL} {D : PD} (h : IsDisk w L D) (i : Nat) (A : Option Addr) (c : Nat) (b : List Int) (hd : D.down = false) (hi : i < D.n) (hn : b.length ≤ 64) (hb : ReadB w A b.length b) (hbA : ∀ w', Only L.S w w' → ReadB w' A b.length b) (hc : D.call.down = false) :
    Calls Try.prog 66 #[.pointer (some ⟨L.p, 0, none⟩), .int .i64 (i : Int), .slice A b.length c] w (DoesTo w L (0, D.call.put i (pad b))) := by
  have c4 := h.c4
  rw [hd] at c4
  have hn4 : D.n ≤ 4096 := h.good.most
  have ht : D.there (i : Int) = true := by rw [PD.there_iff]; omega
  have HT := Fact.mk (there_any h (i : Int))
  rw [ht] at HT
  have HC := Fact.mk (call_any h)
  rw [hc] at HC
  have HB := Fact.mk hbA
  clear h hd ht hc hb hbA
  go_enter Try.func66, Try.ntmps66
  go_wp2_with (first | (go_at_call 50; refine HT.out.mono ?_; rintro e w' ⟨rfl, rfl⟩) | (go_at_call 76; refine HC.out.mono ?_; rintro e w1 ⟨rfl, h1⟩; have H1 := Fact.mk h1; clear h1; have hcp : ∀ (Z : Array Value) (ty : TypeId), Z.toList = List.replicate 64 (Value.int .u8 0) → (Builtin.copy_ #[37, 37] ty #[.slice (some ⟨w1.heap.size, 0, none⟩) 64 64, .slice A b.length c]).run Try.prog (w1.alloc (.cells Z 117)) = .ok (.int .i64 (b.length : Int)) (w1.alloc (.cells ((pad b).map (Value.int .u8)).toArray 117)) := fun Z ty hZ => copy_new w1 Z hZ A c b ty hn (HB.out w1 H1.out.2)))
  clear hcp
  have HP := Fact.mk (pad_length b)
  have HW : Fact (Only L.S w (w1.alloc (.cells ((pad b).map (Value.int .u8)).toArray 117)) ∧ IsDisk (w1.alloc (.cells ((pad b).map (Value.int .u8)).toArray 117)) L D.call ∧ (w1.alloc (.cells ((pad b).map (Value.int .u8)).toArray 117)).rangeAt w1.heap.size 0 ((pad b).map (Value.int .u8))) :=
    ⟨H1.out.2.trans (Only.alloc _ _ _), H1.out.1.alloc _, fun j v hv => by rw [Nat.zero_add, cell_of_row _ _ _ _ _ _ (heap_alloc_new w1 _)]; simpa using hv⟩
  have HI : Fact ((Try.prog.info? 117).map (·.size) = some ((pad b).map (Value.int .u8)).length) := ⟨by rw [size_sec, List.length_map, pad_length]⟩
  refine region_tail 6 (by kernel_rfl) (by kernel_rfl) ?_
  intro w2 hw2
  have HW2 : Fact (Only L.S w w2 ∧ IsDisk w2 L D.call ∧ w2.rangeAt w1.heap.size 0 ((pad b).map (Value.int .u8))) := by
    subst hw2; exact ⟨HW.out.1.drew, HW.out.2.1.drew, HW.out.2.2⟩
  clear HW hw2
  have c1 := HW2.out.2.1.c1
  generalize w1.heap.size = g at *
  clear H1
  clear w1
  generalize hcs : (pad b).map (Value.int .u8) = cs at *
  have HCS := Fact.mk hcs
  clear hcs
  simp only [List.take_succ_cons, List.take_zero, List.drop_succ_cons, List.drop_zero]
  repeat (first | (refine wpStill_load_mid rfl 117 (.tmp 7) rfl g 0 rfl cs _ HW2.out.2.2 Try.underlying117 rfl HI.out ?_) | still_step)
  refine wpStill_nil ?_
  go_wp2_with (refine wpList_put_map rfl (.tmp 33) (.tmp 34) (.tmp 35) 88 117 rfl int_t Try.underlying88 L.bp D.n _ HW2.out.2.1.pend (by omega) rfl i rfl hi (.agg cs.toArray) rfl ?_; intro w3 hm3 ht3; have HM := Fact.mk hm3; have HT3 := Fact.mk ht3; clear hm3 ht3)
  go_ret
  refine ⟨rfl, ?_, HW2.out.1.trans (Only.mapTurned HT3.out L.S_bp)⟩
  refine HW2.out.2.1.put hi (pad_length b) ?_ HT3.out
  have := HM.out
  rw [← HCS.out] at this
  exact this
/-- '(*Disk).Write'. -/
theorem Write_any {w : World} {L : DL} {D : PD} (h : IsDisk w L D) (i : Int) (A : Option Addr) (c : Nat) (b : List Int) (hb : ReadB w A b.length b) (hbA : ∀ w', Only L.S w w' → ReadB w' A b.length b) :
    Calls Try.prog 66 #[.pointer (some ⟨L.p, 0, none⟩), .int .i64 i, .slice A b.length c] w (DoesTo w L (D.write i b)) := by
  unfold PD.write
  cases hd : D.down with
  | true => rw [if_pos rfl]; exact Write_down h i A _ c hd
  | false =>
    rw [if_neg Bool.false_ne_true]
    by_cases hr : D.there i = false ∨ 64 < b.length
    · rw [if_pos hr]; exact Write_range h i A _ c hd hr
    · rw [if_neg hr]
      have ht : D.there i = true := by cases hq : D.there i with
        | true => rfl
        | false => exact absurd (.inl hq) hr
      have hl : b.length ≤ 64 := Nat.le_of_not_lt (fun h => hr (.inr h))
      have hi := (PD.there_iff D i).1 ht
      cases hc : D.call.down with
      | true => rw [if_pos rfl]; exact Write_falls h i A _ c hd ht hl hc
      | false =>
        rw [if_neg Bool.false_ne_true]
        obtain ⟨k, rfl⟩ := Int.eq_ofNat_of_zero_le hi.1
        rw [Int.toNat_natCast]
        exact Write_ok h k A c b hd (by omega) hl hb hbA hc
end Go.Proofs.Ytdkijmikafmgaaa.Dk
