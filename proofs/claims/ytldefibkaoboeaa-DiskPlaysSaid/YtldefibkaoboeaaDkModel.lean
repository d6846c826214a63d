/-
The disk as plain data: sectors that stand, sectors that are pending, bad ones, and the power. No program in sight.
-/
import Derived.KernelRfl
namespace Go.Proofs.Ytldefibkaoboeaa.Dk
set_option linter.unusedVariables false
set_option linter.unusedSimpArgs false

/-- A disk: n sectors; what stands; what is pending; which are bad; how many calls are done still (below 0: it isn't armed); is it down. -/
structure PD where
  n : Nat
  st : Nat → List Int
  pe : Nat → Option (List Int)
  bad : Nat → Bool
  left : Int
  down : Bool

/-- Bytes, and noughts up to a sector. -/
def pad (b : List Int) : List Int := (b ++ List.replicate 64 0).take 64
theorem pad_length (b : List Int) : (pad b).length = 64 := by simp [pad]
theorem pad_nil : pad [] = List.replicate 64 0 := rfl
theorem pad_of_full {b : List Int} (h : b.length = 64) : pad b = b := by rw [pad, ← h, List.take_left]
theorem pad_le {b : List Int} (h : b.length ≤ 64) : pad b = b ++ List.replicate (64 - b.length) 0 := by
  rw [pad, List.take_append, List.take_of_length_le h, List.take_replicate]
  congr 2; omega
theorem pad_get {b : List Int} (h : b.length ≤ 64) (j : Nat) (hj : j < 64) : (pad b).getD j 0 = b.getD j 0 := by
  rw [pad_le h]
  simp only [List.getD_eq_getElem?_getD]
  rcases Nat.lt_or_ge j b.length with h1 | h1
  · rw [List.getElem?_append_left h1]
  · rw [List.getElem?_append_right h1, List.getElem?_eq_none h1, List.getElem?_replicate]
    split <;> rfl

namespace PD
def new (n : Nat) : PD := ⟨n, fun _ => List.replicate 64 0, fun _ => none, fun _ => false, -1, false⟩
def there (D : PD) (i : Int) : Bool := decide (0 ≤ i) && decide (i < D.n)
/-- What a sector has, pending or not. -/
def now (D : PD) (i : Nat) : List Int := (D.pe i).getD (D.st i)
def read (D : PD) (i : Int) : List Int × Int :=
  if D.down then ([], 40) else if D.there i = false then ([], 11) else if D.bad i.toNat then ([], 41) else (D.now i.toNat, 0)
/-- A call that would be done begins. -/
def call (D : PD) : PD := { D with down := decide (D.left = 0), left := max (D.left - 1) (-1) }
def put (D : PD) (i : Nat) (b : List Int) : PD := { D with pe := fun j => if j = i then some b else D.pe j }
def write (D : PD) (i : Int) (b : List Int) : Int × PD :=
  if D.down then (40, D) else if D.there i = false ∨ 64 < b.length then (11, D) else if D.call.down then (40, D.call) else (0, D.call.put i.toNat (pad b))
/-- The sectors that are pending, in order. -/
def keys (D : PD) : List Nat := (List.range D.n).filter fun i => (D.pe i).isSome
/-- How many pending sectors are ahead of one. -/
def rank (D : PD) (i : Nat) : Nat := ((List.range i).filter fun j => (D.pe j).isSome).length
def stand (D : PD) (keep : Nat → Bool) : PD :=
  { D with st := fun i => match D.pe i with | some b => if keep (D.rank i) then b else D.st i | none => D.st i, pe := fun _ => none }
def flush (D : PD) : Int × PD := if D.down then (40, D) else if D.call.down then (40, D.call) else (0, D.call.stand fun _ => true)
def setBad (D : PD) (i : Int) (on : Bool) : Int × PD :=
  if D.there i then (0, { D with bad := fun j => if j = i.toNat then on else D.bad j }) else (11, D)
def arm (D : PD) (k : Int) : PD := { D with left := max k (-1) }
def crash (D : PD) (keep : List Bool) : PD := { D.stand (fun k => keep.getD k false) with left := -1, down := false }

/-- What holds of each disk that the program makes. -/
structure Good (D : PD) : Prop where
  one : 1 ≤ D.n
  most : D.n ≤ 4096
  lo : -1 ≤ D.left
  hi : D.left < 9223372036854775808
  full : ∀ i, (D.st i).length = 64
  fullp : ∀ i b, D.pe i = some b → i < D.n ∧ b.length = 64
theorem Good.new {n : Nat} (h1 : 1 ≤ n) (h2 : n ≤ 4096) : Good (new n) := ⟨h1, h2, by simp [PD.new], by simp [PD.new], fun i => by simp [PD.new], fun i b h => by simp [PD.new] at h⟩
theorem Good.call {D : PD} (h : Good D) : Good D.call :=
  ⟨h.one, h.most, by simp [PD.call]; omega, by have := h.hi; have := h.lo; simp only [PD.call]; omega, h.full, h.fullp⟩
theorem Good.put {D : PD} (h : Good D) {i : Nat} (hi : i < D.n) {b : List Int} (hb : b.length = 64) : Good (D.put i b) :=
  ⟨h.one, h.most, h.lo, h.hi, h.full, fun j c hc => by
    simp only [PD.put] at hc ⊢
    split at hc
    · rename_i e; subst e; exact ⟨hi, by rw [← Option.some.inj hc]; exact hb⟩
    · exact h.fullp j c hc⟩
theorem Good.stand {D : PD} (h : Good D) (keep : Nat → Bool) : Good (D.stand keep) :=
  ⟨h.one, h.most, h.lo, h.hi, fun i => by
    simp only [PD.stand]
    split
    · rename_i b hb
      split
      · exact (h.fullp i b hb).2
      · exact h.full i
    · exact h.full i, fun i b hb => by simp [PD.stand] at hb⟩
theorem there_iff (D : PD) (i : Int) : D.there i = true ↔ 0 ≤ i ∧ i < D.n := by simp [PD.there]
theorem Good.write {D : PD} (h : Good D) (i : Int) (b : List Int) : Good (D.write i b).2 := by
  unfold PD.write
  split
  · exact h
  · split
    · exact h
    · rename_i h1 h2
      split
      · exact h.call
      · have h3 : D.there i = true := by
          cases hq : D.there i with
          | true => rfl
          | false => exact absurd (.inl hq) h2
        have := (there_iff D i).1 h3
        exact h.call.put (by show i.toNat < D.n; omega) (pad_length b)
theorem Good.flush {D : PD} (h : Good D) : Good D.flush.2 := by
  unfold PD.flush
  split
  · exact h
  · split
    · exact h.call
    · show PD.Good (D.call.stand fun _ => true)
      exact h.call.stand _
theorem Good.setBad {D : PD} (h : Good D) (i : Int) (on : Bool) : Good (D.setBad i on).2 := by
  unfold PD.setBad
  split
  · exact ⟨h.one, h.most, h.lo, h.hi, h.full, h.fullp⟩
  · exact h
theorem Good.arm {D : PD} (h : Good D) {k : Int} (hk : k < 9223372036854775808) : Good (D.arm k) :=
  ⟨h.one, h.most, by simp [PD.arm]; omega, by simp only [PD.arm]; omega, h.full, h.fullp⟩
theorem Good.crash {D : PD} (h : Good D) (keep : List Bool) : Good (D.crash keep) :=
  let g := h.stand (fun k => keep.getD k false)
  ⟨g.one, g.most, by simp [PD.crash], by simp [PD.crash], g.full, g.fullp⟩
/-! A disk that isn't armed, and whose power is there. -/
structure Up (D : PD) : Prop where
  left : D.left = -1
  down : D.down = false
theorem Up.call {D : PD} (h : Up D) : D.call = D := by
  cases D with
  | mk n st pe bad left down =>
    obtain ⟨rfl, rfl⟩ := h
    rfl
theorem Up.new (n : Nat) : Up (PD.new n) := ⟨rfl, rfl⟩
theorem Up.put {D : PD} (h : Up D) (i : Nat) (b : List Int) : Up (D.put i b) := ⟨h.left, h.down⟩
theorem Up.stand {D : PD} (h : Up D) (keep : Nat → Bool) : Up (D.stand keep) := ⟨h.left, h.down⟩
theorem Up.crash (D : PD) (keep : List Bool) : Up (D.crash keep) := ⟨rfl, rfl⟩
theorem Up.write {D : PD} (h : Up D) {i : Nat} (hi : i < D.n) {b : List Int} (hb : b.length ≤ 64) : D.write (i : Int) b = (0, D.put i (pad b)) := by
  unfold PD.write
  have ht : D.there (i : Int) = true := by rw [there_iff]; omega
  rw [if_neg (by simp [h.down]), if_neg (by rw [ht]; simp; omega), h.call, if_neg (by simp [h.down]), Int.toNat_natCast]
theorem Up.flush {D : PD} (h : Up D) : D.flush = (0, D.stand fun _ => true) := by
  unfold PD.flush
  rw [if_neg (by simp [h.down]), h.call, if_neg (by simp [h.down])]
theorem Up.read {D : PD} (h : Up D) {i : Nat} (hi : i < D.n) (hb : D.bad i = false) : D.read (i : Int) = (D.now i, 0) := by
  unfold PD.read
  have ht : D.there (i : Int) = true := by rw [there_iff]; omega
  rw [if_neg (by simp [h.down]), if_neg (by rw [ht]; simp), Int.toNat_natCast, if_neg (by simp [hb])]
theorem Up.read_bad {D : PD} (h : Up D) {i : Nat} (hi : i < D.n) (hb : D.bad i = true) : D.read (i : Int) = ([], 41) := by
  unfold PD.read
  have ht : D.there (i : Int) = true := by rw [there_iff]; omega
  rw [if_neg (by simp [h.down]), if_neg (by rw [ht]; simp), Int.toNat_natCast, if_pos hb]
def badden (D : PD) (i : Nat) (on : Bool) : PD := { D with bad := fun j => if j = i then on else D.bad j }
theorem Up.setBad {D : PD} (h : Up D) {i : Nat} (hi : i < D.n) (on : Bool) : D.setBad (i : Int) on = (0, D.badden i on) := by
  unfold PD.setBad
  have ht : D.there (i : Int) = true := by rw [there_iff]; omega
  rw [if_pos ht, Int.toNat_natCast]; rfl
theorem Up.badden {D : PD} (h : Up D) (i : Nat) (on : Bool) : Up (D.badden i on) := ⟨h.left, h.down⟩
theorem now_length {D : PD} (h : Good D) (i : Nat) : (D.now i).length = 64 := by
  unfold PD.now
  cases hp : D.pe i with
  | none => exact h.full i
  | some b => exact (h.fullp i b hp).2
theorem now_put_same (D : PD) (i : Nat) (b : List Int) : (D.put i b).now i = b := by simp [PD.now, PD.put]
theorem now_put_other (D : PD) {i j : Nat} (h : j ≠ i) (b : List Int) : (D.put i b).now j = D.now j := by simp [PD.now, PD.put, h]
theorem now_badden (D : PD) (i j : Nat) (on : Bool) : (D.badden i on).now j = D.now j := rfl
/-- Behind k calls on a disk that was armed with n. -/
structure Arms (n k : Nat) (D : PD) : Prop where
  eight : D.n = 8
  up : k ≤ n → D.down = false ∧ D.left = (n : Int) - (k : Int)
  dn : n < k → D.down = true
theorem Arms.start {D : PD} (h : Up D) (h8 : D.n = 8) (n : Nat) : Arms n 0 (D.arm n) := ⟨h8, fun _ => ⟨h.down, by simp only [PD.arm]; omega⟩, fun h => by omega⟩
theorem Arms.call_lt {n k : Nat} {D : PD} (h : Arms n k D) (hk : k < n) : D.call.down = false ∧ Arms n (k + 1) D.call := by
  obtain ⟨h1, h2⟩ := h.up (by omega)
  have h3 : D.call.down = false := by simp only [PD.call, h2]; rw [decide_eq_false_iff_not]; omega
  exact ⟨h3, h.eight, fun _ => ⟨h3, by simp only [PD.call, h2]; omega⟩, fun hh => by omega⟩
theorem Arms.call_eq {n k : Nat} {D : PD} (h : Arms n k D) (hk : k = n) : D.call.down = true ∧ Arms n (k + 1) D.call := by
  obtain ⟨h1, h2⟩ := h.up (by omega)
  have h3 : D.call.down = true := by simp only [PD.call, h2]; rw [decide_eq_true_iff]; omega
  exact ⟨h3, h.eight, fun hh => by omega, fun _ => h3⟩
theorem Arms.keep {n k : Nat} {D D' : PD} (h : Arms n k D) (h8 : D'.n = D.n) (hd : D'.down = D.down) (hl : D'.left = D.left) : Arms n k D' := ⟨h8.trans h.eight, fun hk => by rw [hd, hl]; exact h.up hk, fun hk => by rw [hd]; exact h.dn hk⟩
theorem Arms.write_lt {n k : Nat} {D : PD} (h : Arms n k D) (hk : k < n) {i : Nat} (hi : i < 8) {b : List Int} (hb : b.length ≤ 64) : D.write (i : Int) b = (0, D.call.put i (pad b)) ∧ Arms n (k + 1) (D.call.put i (pad b)) := by
  obtain ⟨h1, h2⟩ := h.call_lt hk
  refine ⟨?_, h2.keep rfl rfl rfl⟩
  unfold PD.write
  have ht : D.there (i : Int) = true := by rw [there_iff, h.eight]; omega
  rw [if_neg (by simp [(h.up (by omega)).1]), if_neg (by rw [ht]; simp; omega), if_neg (by simp [h1]), Int.toNat_natCast]
theorem Arms.write_ge {n k : Nat} {D : PD} (h : Arms n k D) (hk : n ≤ k) {i : Nat} (hi : i < 8) {b : List Int} (hb : b.length ≤ 64) : ∃ D', D.write (i : Int) b = (40, D') ∧ Arms n (k + 1) D' := by
  unfold PD.write
  have ht : D.there (i : Int) = true := by rw [there_iff, h.eight]; omega
  rcases Nat.eq_or_lt_of_le hk with rfl | hk
  · obtain ⟨h1, h2⟩ := h.call_eq rfl
    refine ⟨D.call, ?_, h2⟩
    rw [if_neg (by simp [(h.up (by omega)).1]), if_neg (by rw [ht]; simp; omega), if_pos h1]
  · exact ⟨D, by rw [if_pos (h.dn hk)], h.eight, fun hh => by omega, fun _ => h.dn hk⟩
theorem Arms.flush_lt {n k : Nat} {D : PD} (h : Arms n k D) (hk : k < n) : D.flush = (0, D.call.stand fun _ => true) ∧ Arms n (k + 1) (D.call.stand fun _ => true) := by
  obtain ⟨h1, h2⟩ := h.call_lt hk
  refine ⟨?_, h2.keep rfl rfl rfl⟩
  unfold PD.flush
  rw [if_neg (by simp [(h.up (by omega)).1]), if_neg (by simp [h1])]
theorem Arms.flush_ge {n k : Nat} {D : PD} (h : Arms n k D) (hk : n ≤ k) : ∃ D', D.flush = (40, D') ∧ Arms n (k + 1) D' := by
  unfold PD.flush
  rcases Nat.eq_or_lt_of_le hk with rfl | hk
  · obtain ⟨h1, h2⟩ := h.call_eq rfl
    refine ⟨D.call, ?_, h2⟩
    rw [if_neg (by simp [(h.up (by omega)).1]), if_pos h1]
  · exact ⟨D, by rw [if_pos (h.dn hk)], h.eight, fun hh => by omega, fun _ => h.dn hk⟩
theorem Arms.down {n k : Nat} {D : PD} (h : Arms n (k + 1) D) : D.down = decide (n ≤ k) := by
  by_cases hk : n ≤ k
  · rw [h.dn (by omega), decide_eq_true hk]
  · rw [(h.up (by omega)).1, decide_eq_false hk]
theorem read_down {D : PD} (h : D.down = true) (i : Int) : D.read i = ([], 40) := by unfold PD.read; rw [if_pos h]
/-- What was flushed stands as it was. -/
theorem now_flush (D : PD) (i : Nat) : (D.stand fun _ => true).now i = D.now i := by
  simp only [PD.now, PD.stand, Option.getD_none]
  cases D.pe i <;> simp
end PD
end Go.Proofs.Ytldefibkaoboeaa.Dk
