import Derived.Test.YtllnleokjcimhaaDoorProg
import Derived.Test.YtllnleokjcimhaaDoorZEntrySameWWords
import Derived.Test.YtllnleokjcimhaaDoorZEntrySameWLast
import Derived.Test.YtllnleokjcimhaaDoorZEntrySameWMore
import Derived.Lib.Hide
namespace Go.Proofs.YtllnleokjcimhaaDoor.P
open Go.RowKit Go.Proofs.YtllnleokjcimhaaDoorW.PrintWords Go.Proofs.YtllnleokjcimhaaDoorW.PrintLast Go.Proofs.YtllnleokjcimhaaDoorW.PrintMore
set_option linter.unusedVariables false
set_option linter.unusedSimpArgs false
theorem ne_nil_B (l : List UInt8) : (l != []) = !l.isEmpty := by cases l <;> rfl
theorem eq_nil_B (l : List UInt8) : (l == []) = l.isEmpty := by cases l <;> rfl
/-- Row g of bytes, cell by cell, none frozen. -/
def RawU8 (w : World) (g : Nat) (xs : List UInt8) : Prop :=
  ∀ j (h : j < xs.length), w.cell? ⟨g, j, none⟩ = some (.int .u8 (xs[j].toNat : Int)) ∧ w.frozen? ⟨g, j, none⟩ = false
theorem RawU8.set {w : World} {g : Nat} {xs : List UInt8} (h : RawU8 w g xs) (i : Nat) (hi : i < xs.length) (c : UInt8) : RawU8 (w.setCell ⟨g, i, none⟩ (.int .u8 (c.toNat : Int))) g (xs.set i c) := by
  intro j hj
  have hj' : j < xs.length := by simpa using hj
  refine ⟨?_, by rw [World.frozen?_setCell]; exact (h j hj').2⟩
  by_cases e : i = j
  · subst e
    rw [World.cell?_setCell_same' _ _ _ (by rw [(h i hi).1]; rfl)]; simp
  · rw [World.cell?_setCell_other (h := by intro hh; injection hh; contradiction), (h j hj').1]
    simp [List.getElem_set, e]
def lowB (c : UInt8) : UInt8 := if 65 ≤ c ∧ c ≤ 90 then c + 32 else c
theorem RawU8.drewN {w : World} {g : Nat} {xs : List UInt8} (h : RawU8 w g xs) (n : Nat) : RawU8 (w.drewN n) g xs := h
theorem RawU8.of_bytes (w : World) (e : TypeId) (s : ByteArray) : RawU8 (Lib.bytesWorld w e s) w.heap.size s.data.toList := by
  intro j hj
  have hj' : j < s.size := by rw [data_length] at hj; exact hj
  refine ⟨?_, ?_⟩
  · rw [Lib.bytesWorld_cell w e s j hj']
    simp [List.getD_eq_getElem?_getD, List.getElem?_eq_getElem hj]
  · simp only [World.frozen?, Lib.bytesWorld_at_new, Lib.bytesCells]
    simp
    omega
theorem RawU8.string {P : Program} {w : World} {g : Nat} {xs : List UInt8} (h : RawU8 w g xs) (src e dst : TypeId) (hs : P.underlying src = some (.slice e)) (he : P.underlying e = some (.int .u8)) (hd : P.underlying dst = some .string) (n cap : Nat) (hn : xs.length = n) :
    (convert src dst (.slice (some ⟨g, 0, none⟩) n cap)).run P w = .ok (.string ⟨xs.toArray⟩) w := by
  have := run_convert_bytes_arg (P := P) w src e hs he g 0 n cap (xs.map fun b => (b.toNat : Int)) (by simpa using hn) (fun i hi => by
    have hi' : i < xs.length := by omega
    rw [Nat.zero_add, (h i hi').1]
    simp [List.getD_eq_getElem?_getD, List.getElem?_eq_getElem hi']) dst hd
  rw [this]
  congr 2
  have e : (xs.map ((fun n : Int => UInt8.ofNat n.toNat) ∘ fun b : UInt8 => (b.toNat : Int))) = xs := by
    conv => rhs; rw [← List.map_id xs]
    apply List.map_congr_left; intro a _; simp
  simp [strOfNums, e]
def lowTo (l : List UInt8) (k : Nat) : List UInt8 := (l.take k).map lowB ++ l.drop k
theorem lowTo_length (l : List UInt8) (k : Nat) : (lowTo l k).length = l.length := by simp [lowTo]; omega
theorem lowTo_zero (l : List UInt8) : lowTo l 0 = l := by simp [lowTo]
theorem lowTo_all (l : List UInt8) (k : Nat) (h : l.length ≤ k) : lowTo l k = l.map lowB := by simp [lowTo, List.take_of_length_le h, List.drop_of_length_le h]
theorem lowTo_at (l : List UInt8) (k : Nat) (h : k < l.length) (h' : k < (lowTo l k).length) : (lowTo l k)[k] = l[k] := by
  simp [lowTo, List.getElem_append]; simp [show ¬ k < min k l.length by omega]
  congr 1; omega
theorem lowTo_set (l : List UInt8) (k : Nat) (h : k < l.length) : lowTo l (k + 1) = (lowTo l k).set k (lowB l[k]) := by
  unfold lowTo
  rw [List.take_succ_eq_append_getElem h, List.map_append, List.set_append_right _ _ (by simp; omega)]
  have e : k - (List.map lowB (List.take k l)).length = 0 := by simp; omega
  rw [e, List.drop_eq_getElem_cons h, List.set_cons_zero]
  simp
theorem lowTo_same (l : List UInt8) (k : Nat) (h : k < l.length) (he : lowB l[k] = l[k]) : lowTo l (k + 1) = lowTo l k := by
  rw [lowTo_set l k h, he]
  have e := lowTo_at l k h (by rw [lowTo_length]; exact h)
  rw [← e, List.set_getElem_self]
theorem lowB_great (c : UInt8) (h1 : 65 ≤ (c.toNat : Int)) (h2 : (c.toNat : Int) ≤ 90) : ((lowB c).toNat : Int) = (c.toNat : Int) - 65 + 97 := by
  unfold lowB
  rw [if_pos ⟨by rw [UInt8.le_iff_toNat_le]; simpa using (by omega : 65 ≤ c.toNat), by rw [UInt8.le_iff_toNat_le]; simpa using (by omega : c.toNat ≤ 90)⟩]
  rw [UInt8.toNat_add]
  simp; omega
theorem lowB_else (c : UInt8) (h : ¬ (65 ≤ (c.toNat : Int) ∧ (c.toNat : Int) ≤ 90)) : lowB c = c := by
  unfold lowB
  rw [if_neg]
  rintro ⟨a, b⟩
  rw [UInt8.le_iff_toNat_le] at a b
  have a' : 65 ≤ c.toNat := a
  have b' : c.toNat ≤ 90 := b
  exact h ⟨by omega, by omega⟩
theorem own_len_eq (A : Option Addr) (n m c c' : Nat) : (Value.slice A n c).ownBlock = (Value.slice A m c').ownBlock := by
  unfold Value.ownBlock
  cases A with
  | none => rfl
  | some a => rfl
/-- What lies apart from a row lies apart from a piece of it. -/
theorem R_own_len {α : Type} {d : Kd α} {e base : Nat} {W : World} {A : Option Addr} {n m c c' : Nat} {v : Value} {xs : List α} (h : Kd.R d e W base (fun k_ => some k_ ≠ (Value.slice A n c).ownBlock) v xs) : Kd.R d e W base (fun k_ => some k_ ≠ (Value.slice A m c').ownBlock) v xs :=
  Kd.R_mono h (fun k hk => by rwa [own_len_eq A n m c c'] at hk)
theorem R_own_len2 {α : Type} {d : Kd α} {e base : Nat} {W : World} {A : Option Addr} {n m c c' : Nat} {ok : Nat → Prop} {v : Value} {xs : List α} (h : Kd.R d e W base (fun k_ => ok k_ ∧ some k_ ≠ (Value.slice A n c).ownBlock) v xs) : Kd.R d e W base (fun k_ => ok k_ ∧ some k_ ≠ (Value.slice A m c').ownBlock) v xs :=
  Kd.R_mono h (fun k hk => ⟨hk.1, by have := hk.2; rwa [own_len_eq A n m c c'] at this⟩)
theorem u8_div16 (x : Int) : IntKind.u8.wrap ((x % 256).tdiv 16) = x % 256 / 16 := by
  rw [Int.tdiv_eq_ediv_of_nonneg (by omega)]
  simp only [IntKind.wrap, IntKind.bits, IntKind.signed]
  simp
  omega
theorem u8_mod16 (x : Int) : (x % 256).tmod 16 = x % 256 % 16 := by
  rw [Int.tmod_eq_emod_of_nonneg (by omega)]
end Go.Proofs.YtllnleokjcimhaaDoor.P
