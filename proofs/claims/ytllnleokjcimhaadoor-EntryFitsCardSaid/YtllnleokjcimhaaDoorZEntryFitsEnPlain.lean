import Derived.Test.YtllnleokjcimhaaDoorZEntryFitsWWords
/-
How a record's bytes are read, as plain data. No program in sight.
-/
namespace Go.Proofs.YtllnleokjcimhaaDoor.En
open Go.Proofs.YtllnleokjcimhaaDoorW.PrintWords
set_option linter.unusedVariables false
set_option linter.unusedSimpArgs false
/-- What is left to be read; has anything lacked? -/
structure Rd where
  b : List Int
  bad : Bool
def Rd.bytes (r : Rd) (n : Nat) : List Int × Rd := if r.bad = true ∨ r.b.length < n then ([], ⟨r.b, true⟩) else (r.b.take n, ⟨r.b.drop n, false⟩)
/-- Bytes as a number. -/
def big (l : List Int) : Int := l.foldl (fun n c => n * 256 + c) 0
def Rd.get (r : Rd) (k : Nat) : Int × Rd := (big (r.bytes k).1, (r.bytes k).2)
def Rd.textB (r : Rd) : List Int × Rd := (r.get 2).2.bytes (r.get 2).1.toNat
def Rd.text (r : Rd) : ByteArray × Rd := (strOfNums r.textB.1, r.textB.2)
def Rd.texts : Nat → Rd → List ByteArray × Rd
  | 0, r => ([], r)
  | n + 1, r => if r.bad = true then ([], r) else (r.text.1 :: (Rd.texts n r.text.2).1, (Rd.texts n r.text.2).2)
def Rd.field (r : Rd) : (ByteArray × ByteArray) × Rd := ((r.text.1, r.text.2.text.1), r.text.2.text.2)
def Rd.fields : Nat → Rd → List (ByteArray × ByteArray) × Rd
  | 0, r => ([], r)
  | n + 1, r => if r.bad = true then ([], r) else (r.field.1 :: (Rd.fields n r.field.2).1, (Rd.fields n r.field.2).2)
/-- An entry. -/
structure PE where
  key : ByteArray
  second : ByteArray
  names : List ByteArray
  asked : Int
  came : Int
  status : Int
  fields : List (ByteArray × ByteArray)
  body : List Int
  gen : Int
def Rd.secondOf (r : Rd) (v : Int) : ByteArray × Rd := if v = 3 then r.text else ((⟨#[]⟩ : ByteArray), r)
def Rd.namesOf (r : Rd) (v : Int) : List ByteArray × Rd := if v = 3 then Rd.texts (r.get 2).1.toNat (r.get 2).2 else ([], r)
def Rd.genOf (r : Rd) (v : Int) : Int × Rd := if 1 < v then r.get 6 else (1, r)
def Rd.fieldsOf (r : Rd) : List (ByteArray × ByteArray) × Rd := Rd.fields (r.get 2).1.toNat (r.get 2).2
/-- An entry of a version. -/
def Rd.entry (r : Rd) (v : Int) : PE × Rd :=
  let s := r.secondOf v
  let n := s.2.namesOf v
  let g := n.2.genOf v
  let k := g.2.text
  let a := k.2.get 6
  let c := a.2.get 6
  let t := c.2.get 6
  let f := t.2.fieldsOf
  let b := f.2.text
  (⟨k.1, s.1, n.1, a.1, c.1, t.1, f.1, bytesOf b.1, g.1⟩, b.2)
/-- From the key on. -/
def tailE (g : Rd) (sec : ByteArray) (names : List ByteArray) (gen : Int) : PE × Rd :=
  let k := g.text
  let a := k.2.get 6
  let c := a.2.get 6
  let t := c.2.get 6
  let f := t.2.fieldsOf
  let b := f.2.text
  (⟨k.1, sec, names, a.1, c.1, t.1, f.1, bytesOf b.1, gen⟩, b.2)
theorem entry_one (r : Rd) : r.entry 1 = tailE r (⟨#[]⟩ : ByteArray) [] 1 := by
  unfold Rd.entry Rd.secondOf Rd.namesOf Rd.genOf tailE
  simp
theorem entry_two (r : Rd) : r.entry 2 = tailE (r.get 6).2 (⟨#[]⟩ : ByteArray) [] (r.get 6).1 := by
  unfold Rd.entry Rd.secondOf Rd.namesOf Rd.genOf tailE
  simp
theorem entry_three (r : Rd) : r.entry 3 = tailE ((Rd.texts (r.text.2.get 2).1.toNat (r.text.2.get 2).2).2.get 6).2 r.text.1 (Rd.texts (r.text.2.get 2).1.toNat (r.text.2.get 2).2).1 ((Rd.texts (r.text.2.get 2).1.toNat (r.text.2.get 2).2).2.get 6).1 := by
  unfold Rd.entry Rd.secondOf Rd.namesOf Rd.genOf tailE
  simp
theorem big_bound : ∀ (l : List Int), (∀ x ∈ l, 0 ≤ x ∧ x < 256) → 0 ≤ big l ∧ big l < 256 ^ l.length := by
  have h : ∀ (l : List Int) (n : Int) (m : Nat), (∀ x ∈ l, 0 ≤ x ∧ x < 256) → 0 ≤ n → n < 256 ^ m → 0 ≤ l.foldl (fun n c => n * 256 + c) n ∧ l.foldl (fun n c => n * 256 + c) n < 256 ^ (m + l.length) := by
    intro l
    induction l with
    | nil => intro n m _ h0 h1; exact ⟨h0, h1⟩
    | cons x l ih =>
      intro n m hx h0 h1
      have h2 := hx x (List.mem_cons_self ..)
      have h3 := ih (n * 256 + x) (m + 1) (fun y hy => hx y (List.mem_cons_of_mem _ hy)) (by omega) (by rw [Int.pow_succ]; omega)
      rw [List.length_cons, show m + (l.length + 1) = m + 1 + l.length from by omega]
      exact h3
  intro l hl
  have := h l 0 0 hl (by omega) (by simp)
  simpa [big] using this
end Go.Proofs.YtllnleokjcimhaaDoor.En
