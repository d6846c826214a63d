/-
The journal as plain data, over the plain disk. No program in sight.
-/
import Derived.Test.YtjpbpeiknnloeaaDkModel
import Derived.WalkKit
namespace Go.Proofs.Ytjpbpeiknnloeaa.Dk
set_option linter.unusedVariables false
set_option linter.unusedSimpArgs false

abbrev Ch := Int × List Int
/-- One step of the sum of a job. -/
def sumStep (n c : Int) : Int := Go.bits .xor .u32 n (c % 4294967296) * 16777619 % 4294967296
def sumOf (n : Int) (rows : List (List Int)) : Int := rows.foldl (fun n b => b.foldl sumStep n) n
/-- A number's high and low byte. -/
def two (x : Int) : List Int := [x / 256 % 256, x % 256]
/-- Where the changes go, and noughts up to three sectors. -/
def placesOf (l : List Ch) : List Int := let a := l.flatMap fun c => two c.1; a ++ List.replicate (192 - a.length) 0
def imagesOf (l : List Ch) : List (List Int) := [(placesOf l).take 64, ((placesOf l).take 128).drop 64, ((placesOf l).take 192).drop 128] ++ l.map fun c => pad c.2
def sumAll (l : List Ch) : Int := sumOf (sumOf 2166136261 [two l.length]) (imagesOf l)
def headOf (l : List Ch) : List Int := let s := sumAll l; pad ([82, 68] ++ two l.length ++ [s / 16777216 % 256, s / 65536 % 256, s / 256 % 256, s % 256])
def jobOf (l : List Ch) : List (List Int) := headOf l :: imagesOf l
/-- Are changes a job, with n data sectors? -/
def rightOf (n : Int) (l : List Ch) : Bool := decide ((∀ c ∈ l, 0 ≤ c.1 ∧ c.1 < n ∧ c.2.length ≤ 64) ∧ (l.map (·.1)).Nodup ∧ 1 ≤ l.length ∧ l.length ≤ 96)

namespace PD
def writes (D : PD) : List Ch → Int × PD
  | [] => D.flush
  | c :: r => if (D.write c.1 c.2).1 = 0 then (D.write c.1 c.2).2.writes r else D.write c.1 c.2
def finish (D : PD) (l : List Ch) : Int × PD :=
  let r := D.writes (l.map fun c => (100 + c.1, c.2))
  if r.1 = 0 then r.2.writes [(0, [])] else r
/-- The images of a job, each with its sector. -/
def numbered (k : Int) : List (List Int) → List Ch
  | [] => []
  | b :: r => (k, b) :: numbered (k + 1) r
def doJob (D : PD) (l : List Ch) : Int × PD :=
  let r := D.writes (numbered 1 (imagesOf l))
  if r.1 = 0 then (let s := r.2.writes [(0, headOf l)]; if s.1 = 0 then s.2.finish l else s) else r
/-- '(*Redo).Do': the answer, the disk, is it broken. -/
def do_ (D : PD) (br : Bool) (l : List Ch) : Int × PD × Bool :=
  if br then (13, D, br) else if rightOf (D.n - 100) l = false then (10, D, br) else ((D.doJob l).1, (D.doJob l).2, decide ((D.doJob l).1 ≠ 0))
/-- The sectors k, k + 1, .. of a number m: an error's number, or what they have. -/
def reads (D : PD) (k : Int) : Nat → List (List Int) × Int
  | 0 => ([], 0)
  | m + 1 => if (D.read k).2 = 0 then (if (D.reads (k + 1) m).2 = 0 then ((D.read k).1 :: (D.reads (k + 1) m).1, 0) else ([], (D.reads (k + 1) m).2)) else ([], (D.read k).2)
def placed (p : List Int) (k : Nat) : Int := p.getD (2 * k) 0 * 256 + p.getD (2 * k + 1) 0
/-- The changes that images tell. -/
def told (rows : List (List Int)) : List Ch := (List.range (rows.length - 3)).map fun k => (placed (rows.getD 0 [] ++ rows.getD 1 [] ++ rows.getD 2 []) k, rows.getD (3 + k) [])
/-- The first four sectors are bytes. -/
def Low (D : PD) : Prop := ∀ i : Nat, i < 4 → ∀ x ∈ D.now i, 0 ≤ x ∧ x < 256
def found (D : PD) : List Ch × Int :=
  let h := D.read 0
  if h.2 ≠ 0 then ([], h.2) else if (strOfNums (h.1.take 2)).toList ≠ [82, 68] then ([], 0) else
  let n := h.1.getD 2 0 * 256 + h.1.getD 3 0
  if n < 1 ∨ 96 < n then ([], 0) else
  let r := D.reads 1 (3 + n.toNat)
  if r.2 ≠ 0 then ([], r.2) else if rightOf (D.n - 100) (told r.1) = false then ([], 0) else if strOfNums (headOf (told r.1)) ≠ strOfNums h.1 then ([], 0) else (told r.1, 0)
/-- 'redo.Open', where there are sectors enough. -/
def open_ (D : PD) : Int × PD :=
  let f := D.found
  if f.2 ≠ 0 then (f.2, D) else if f.1 = [] then (0, D) else D.finish f.1
def rread (D : PD) (br : Bool) (i : Int) : List Int × Int := if ¬ (0 ≤ i ∧ i < D.n - 100) then ([], 11) else if br then ([], 13) else D.read (100 + i)
/-- All data sectors one behind the other. -/
def wholeOf (D : PD) (br : Bool) : List Int := if (List.range (D.n - 100)).all (fun i : Nat => decide ((D.rread br i).2 = 0)) then (List.range (D.n - 100)).flatMap fun i : Nat => (D.rread br i).1 else []
end PD
/-- Bytes, when changes were done. -/
def doneOf (b : List Int) (l : List Ch) : List Int := l.foldl (fun b c => b.take (64 * c.1.toNat) ++ pad c.2 ++ b.drop (64 * c.1.toNat + 64)) b
end Go.Proofs.Ytjpbpeiknnloeaa.Dk
