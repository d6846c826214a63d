/-
The journal's walks up to Do, one text behind the other.
-/
import Derived.Test.YtdkijmikafmgaaaXA
import Derived.WalkKit
import Derived.Test.YtdkijmikafmgaaaXB
import Derived.Test.YtdkijmikafmgaaaWRepsOne
import Derived.Maps.AppendAt
import Derived.Lib.SlBytesConst
namespace Go.Proofs.Ytdkijmikafmgaaa.Dk
set_option linter.unusedVariables false
set_option linter.unusedSimpArgs false

abbrev Ch := Int × List Int
/-- One step of the sum of a job. -/
def sumStep (n c : Int) : Int := Go.bits .xor .u32 n (c % 4294967296) * 16777619 % 4294967296
def sumOf (n : Int) (rows : List (List Int)) : Int := rows.foldl (fun n b => b.foldl sumStep n) n
/-- A number's high and low byte. -/
def two (x : Int) : List Int := [x / 256 % 256, x % 256]
/-- Where the changes go, and noughts up to three sectors. -/
def placesOf (l : List Ch) : List Int := let a := l.flatMap fun c => two c.1; a ++ List.replicate (192 - a.length) 0
def imagesOf (l : List Ch) : List (List Int) := [(placesOf l).take 64, ((placesOf l).take 128).drop 64, ((placesOf l).take 192).drop 128] ++ l.map fun c => pad c.2
def sumAll (l : List Ch) : Int := sumOf (sumOf 2166136261 [two l.length]) (imagesOf l)
def headOf (l : List Ch) : List Int := let s := sumAll l; pad ([82, 68] ++ two l.length ++ [s / 16777216 % 256, s / 65536 % 256, s / 256 % 256, s % 256])
def jobOf (l : List Ch) : List (List Int) := headOf l :: imagesOf l
/-- Are changes a job, with n data sectors? -/
def rightOf (n : Int) (l : List Ch) : Bool := decide ((∀ c ∈ l, 0 ≤ c.1 ∧ c.1 < n ∧ c.2.length ≤ 64) ∧ (l.map (·.1)).Nodup ∧ 1 ≤ l.length ∧ l.length ≤ 96)

namespace PD
def writes (D : PD) : List Ch → Int × PD
  | [] => D.flush
  | c :: r => if (D.write c.1 c.2).1 = 0 then (D.write c.1 c.2).2.writes r else D.write c.1 c.2
def finish (D : PD) (l : List Ch) : Int × PD :=
  let r := D.writes (l.map fun c => (100 + c.1, c.2))
  if r.1 = 0 then r.2.writes [(0, [])] else r
/-- The images of a job, each with its sector. -/
def numbered (k : Int) : List (List Int) → List Ch
  | [] => []
  | b :: r => (k, b) :: numbered (k + 1) r
def doJob (D : PD) (l : List Ch) : Int × PD :=
  let r := D.writes (numbered 1 (imagesOf l))
  if r.1 = 0 then (let s := r.2.writes [(0, headOf l)]; if s.1 = 0 then s.2.finish l else s) else r
/-- '(*Redo).Do': the answer, the disk, is it broken. -/
def do_ (D : PD) (br : Bool) (l : List Ch) : Int × PD × Bool :=
  if br then (13, D, br) else if rightOf (D.n - 100) l = false then (10, D, br) else ((D.doJob l).1, (D.doJob l).2, decide ((D.doJob l).1 ≠ 0))
/-- The sectors k, k + 1, .. of a number m: an error's number, or what they have. -/
def reads (D : PD) (k : Int) : Nat → List (List Int) × Int
  | 0 => ([], 0)
  | m + 1 => if (D.read k).2 = 0 then (if (D.reads (k + 1) m).2 = 0 then ((D.read k).1 :: (D.reads (k + 1) m).1, 0) else ([], (D.reads (k + 1) m).2)) else ([], (D.read k).2)
def placed (p : List Int) (k : Nat) : Int := p.getD (2 * k) 0 * 256 + p.getD (2 * k + 1) 0
/-- The changes that images tell. -/
def told (rows : List (List Int)) : List Ch := (List.range (rows.length - 3)).map fun k => (placed (rows.getD 0 [] ++ rows.getD 1 [] ++ rows.getD 2 []) k, rows.getD (3 + k) [])
/-- The first four sectors are bytes. -/
def Low (D : PD) : Prop := ∀ i : Nat, i < 4 → ∀ x ∈ D.now i, 0 ≤ x ∧ x < 256
def found (D : PD) : List Ch × Int :=
  let h := D.read 0
  if h.2 ≠ 0 then ([], h.2) else if (strOfNums (h.1.take 2)).toList ≠ [82, 68] then ([], 0) else
  let n := h.1.getD 2 0 * 256 + h.1.getD 3 0
  if n < 1 ∨ 96 < n then ([], 0) else
  let r := D.reads 1 (3 + n.toNat)
  if r.2 ≠ 0 then ([], r.2) else if rightOf (D.n - 100) (told r.1) = false then ([], 0) else if strOfNums (headOf (told r.1)) ≠ strOfNums h.1 then ([], 0) else (told r.1, 0)
/-- 'redo.Open', where there are sectors enough. -/
def open_ (D : PD) : Int × PD :=
  let f := D.found
  if f.2 ≠ 0 then (f.2, D) else if f.1 = [] then (0, D) else D.finish f.1
def rread (D : PD) (br : Bool) (i : Int) : List Int × Int := if ¬ (0 ≤ i ∧ i < D.n - 100) then ([], 11) else if br then ([], 13) else D.read (100 + i)
/-- All data sectors one behind the other. -/
def wholeOf (D : PD) (br : Bool) : List Int := if (List.range (D.n - 100)).all (fun i : Nat => decide ((D.rread br i).2 = 0)) then (List.range (D.n - 100)).flatMap fun i : Nat => (D.rread br i).1 else []
end PD
/-- Bytes, when changes were done. -/
def doneOf (b : List Int) (l : List Ch) : List Int := l.foldl (fun b c => b.take (64 * c.1.toNat) ++ pad c.2 ++ b.drop (64 * c.1.toNat + 64)) b
end Go.Proofs.Ytdkijmikafmgaaa.Dk
namespace Go.Proofs.Ytdkijmikafmgaaa.Dk
open Go.RowKit Go.Maps Go.Proofs.YtdkijmikafmgaaaW.PrintWords Go.Proofs.YtdkijmikafmgaaaW.PrintLast Go.Proofs.YtdkijmikafmgaaaW.PrintMore
set_option linter.unusedVariables false
set_option linter.unusedSimpArgs false

/-- A slice by its words. -/
structure SV where
  A : Option Addr
  n : Nat
  c : Nat
def SV.v (s : SV) : Value := .slice s.A s.n s.c
def slK : Kd SV := Kd.scalar SV.v (fun _ => rfl)
def chK : Kd (Int × SV) := Kd.pair (Kd.int .i64) slK
/-- The slice is read as l, now and while only S turns. -/
structure Sees (S : Nat → Prop) (w : World) (s : SV) (l : List Int) : Prop where
  n : s.n = l.length
  c : l.length ≤ s.c
  reads : ∀ w', Only S w w' → ReadB w' s.A l.length l
theorem Sees.step {S : Nat → Prop} {w w1 : World} {s : SV} {l : List Int} (h : Sees S w s l) (ho : Only S w w1) : Sees S w1 s l := ⟨h.n, h.c, fun w' h2 => h.reads w' (ho.trans h2)⟩
theorem Sees.sub {S S2 : Nat → Prop} {w : World} {s : SV} {l : List Int} (h : Sees S w s l) (hs : ∀ k, S2 k → S k) : Sees S2 w s l := ⟨h.n, h.c, fun w' h2 => h.reads w' (h2.mono hs)⟩
theorem Sees.v {S : Nat → Prop} {w : World} {s : SV} {l : List Int} (h : Sees S w s l) : s.v = .slice s.A l.length s.c := by rw [SV.v, h.n]
/-- A row of changes that is read, now and while only S turns. -/
def Chs (S : Nat → Prop) (w : World) (A : Option Addr) (l : List Ch) : Prop :=
  ∃ vs : List (Int × SV), vs.length = l.length ∧ (∀ w', Only S w w' → Kd.C chK w' A vs.length vs) ∧ ∀ (j : Nat) v x, vs[j]? = some v → l[j]? = some x → v.1 = x.1 ∧ Sees S w v.2 x.2
/-- A row of rows of bytes that is read, now and while only S turns. -/
def Rws (S : Nat → Prop) (w : World) (A : Option Addr) (l : List (List Int)) : Prop :=
  ∃ vs : List SV, vs.length = l.length ∧ (∀ w', Only S w w' → Kd.C slK w' A vs.length vs) ∧ ∀ (j : Nat) v x, vs[j]? = some v → l[j]? = some x → Sees S w v x
section
variable {S S2 : Nat → Prop} {w w1 : World} {A : Option Addr}
theorem Chs.step {l : List Ch} (h : Chs S w A l) (ho : Only S w w1) : Chs S w1 A l := by
  obtain ⟨vs, h1, h2, h3⟩ := h
  exact ⟨vs, h1, fun w' h => h2 w' (ho.trans h), fun j v x hv hx => ⟨(h3 j v x hv hx).1, (h3 j v x hv hx).2.step ho⟩⟩
theorem Chs.sub {l : List Ch} (h : Chs S w A l) (hs : ∀ k, S2 k → S k) : Chs S2 w A l := by
  obtain ⟨vs, h1, h2, h3⟩ := h
  exact ⟨vs, h1, fun w' h => h2 w' (h.mono hs), fun j v x hv hx => ⟨(h3 j v x hv hx).1, (h3 j v x hv hx).2.sub hs⟩⟩
theorem Rws.step {l : List (List Int)} (h : Rws S w A l) (ho : Only S w w1) : Rws S w1 A l := by
  obtain ⟨vs, h1, h2, h3⟩ := h
  exact ⟨vs, h1, fun w' h => h2 w' (ho.trans h), fun j v x hv hx => (h3 j v x hv hx).step ho⟩
theorem Rws.sub {l : List (List Int)} (h : Rws S w A l) (hs : ∀ k, S2 k → S k) : Rws S2 w A l := by
  obtain ⟨vs, h1, h2, h3⟩ := h
  exact ⟨vs, h1, fun w' h => h2 w' (h.mono hs), fun j v x hv hx => (h3 j v x hv hx).sub hs⟩
theorem Chs.le {l : List Ch} (h : Chs S w A l) : l.length ≤ 9223372036854775807 := by
  obtain ⟨vs, h1, h2, h3⟩ := h
  rw [← h1]; exact (h2 w (Only.refl _ _)).2.1
theorem Rws.le {l : List (List Int)} (h : Rws S w A l) : l.length ≤ 9223372036854775807 := by
  obtain ⟨vs, h1, h2, h3⟩ := h
  rw [← h1]; exact (h2 w (Only.refl _ _)).2.1
/-- An element. -/
theorem Chs.at_ {l : List Ch} (h : Chs S w A l) {j : Nat} {x : Ch} (hx : l[j]? = some x) : ∃ ad As cs, A = some ad ∧ Sees S w ⟨As, x.2.length, cs⟩ x.2 ∧
    ∀ w', Only S w w' → w'.cell? (ad.add (j * 2)) = some (.int .i64 x.1) ∧ w'.cell? ⟨(ad.add (j * 2)).block, (ad.add (j * 2)).off + 1, none⟩ = some (.slice As x.2.length cs) := by
  obtain ⟨vs, h1, h2, h3⟩ := h
  have hj : j < l.length := (List.getElem?_eq_some_iff.1 hx).1
  have hv : vs[j]? = some vs[j] := List.getElem?_eq_getElem (by omega)
  obtain ⟨e1, e2⟩ := h3 j _ x hv hx
  obtain ⟨ad, eA, _⟩ := (h2 w (Only.refl _ _)).2.2 (by omega)
  refine ⟨ad, vs[j].2.A, vs[j].2.c, eA, ⟨rfl, e2.c, e2.reads⟩, fun w' ho => ?_⟩
  obtain ⟨ad2, eA2, hc⟩ := (h2 w' ho).2.2 (by omega)
  rw [eA] at eA2
  injection eA2 with eA2
  subst eA2
  obtain ⟨c, _, ⟨c0, c1, rfl, k0, k1⟩, hcc⟩ := hc j _ hv
  have k0 : c0 = [.int .i64 vs[j].1] := k0
  have k1 : c1 = [vs[j].2.v] := k1
  rw [k0, k1] at hcc
  have a0 := hcc 0 (.int .i64 vs[j].1) rfl
  have a1 := hcc 1 vs[j].2.v rfl
  rw [show chK.sz = 2 from rfl] at a0 a1
  rw [e1] at a0
  rw [e2.v, add_field _ _ 1 (by omega)] at a1
  exact ⟨a0, a1⟩
theorem Rws.at_ {l : List (List Int)} (h : Rws S w A l) {j : Nat} {x : List Int} (hx : l[j]? = some x) : ∃ ad As cs, A = some ad ∧ Sees S w ⟨As, x.length, cs⟩ x ∧
    ∀ w', Only S w w' → w'.cell? (ad.add j) = some (.slice As x.length cs) := by
  obtain ⟨vs, h1, h2, h3⟩ := h
  have hj : j < l.length := (List.getElem?_eq_some_iff.1 hx).1
  have hv : vs[j]? = some vs[j] := List.getElem?_eq_getElem (by omega)
  have e2 := h3 j _ x hv hx
  obtain ⟨ad, eA, _⟩ := (h2 w (Only.refl _ _)).2.2 (by omega)
  refine ⟨ad, vs[j].A, vs[j].c, eA, ⟨rfl, e2.c, e2.reads⟩, fun w' ho => ?_⟩
  obtain ⟨ad2, eA2, hc⟩ := (h2 w' ho).2.2 (by omega)
  rw [eA] at eA2
  injection eA2 with eA2
  subst eA2
  obtain ⟨c, _, k0, hcc⟩ := hc j _ hv
  have k0 : c = [vs[j].v] := k0
  rw [k0] at hcc
  have a0 := hcc 0 vs[j].v rfl
  rw [show slK.sz = 1 from rfl, e2.v, Nat.mul_one, Nat.add_zero] at a0
  exact a0
/-- A row of changes of one's own is read. -/
theorem Chs.of_own {base : Nat} {ok : Nat → Prop} {n c : Nat} {vs : List (Int × SV)} {l : List Ch} (h : Kd.R chK 111 w base ok (.slice A n c) vs) (hok : ∀ k, ok k → ¬ S k) (hl : vs.length = l.length) (he : ∀ (j : Nat) v x, vs[j]? = some v → l[j]? = some x → v.1 = x.1 ∧ Sees S w v.2 x.2) : Chs S w A l :=
  ⟨vs, hl, fun w' ho => by
    obtain ⟨A', c', e, h2, h3⟩ := Kd.R_reads (own_only h ho hok)
    injection e with e1 e2 e3
    rw [e1]; exact h3, he⟩
theorem Rws.of_own {base : Nat} {ok : Nat → Prop} {n c : Nat} {vs : List SV} {l : List (List Int)} (h : Kd.R slK 37 w base ok (.slice A n c) vs) (hok : ∀ k, ok k → ¬ S k) (hl : vs.length = l.length) (he : ∀ (j : Nat) v x, vs[j]? = some v → l[j]? = some x → Sees S w v x) : Rws S w A l :=
  ⟨vs, hl, fun w' ho => by
    obtain ⟨A', c', e, h2, h3⟩ := Kd.R_reads (own_only h ho hok)
    injection e with e1 e2 e3
    rw [e1]; exact h3, he⟩
/-- Bytes of one's own are seen. -/
theorem Sees.of_own {base : Nat} {ok : Nat → Prop} {n c : Nat} {l : List Int} (h : OwnB w base ok (.slice A n c) l) (hok : ∀ k, ok k → ¬ S k) : Sees S w ⟨A, n, c⟩ l :=
  ⟨(own_reads_ h).1, by have := own_reads_ h; show l.length ≤ c; omega, fun w' ho => (own_reads_ (own_only h ho hok)).2.2⟩
/-- What comes in as an argument is seen as long as nothing elder turns. -/
theorem Sees.of_read {c : Nat} {l : List Int} (h : ReadB w A l.length l) (hc : l.length ≤ c) (hs : ∀ k, S k → w.heap.size ≤ k) : Sees S w ⟨A, l.length, c⟩ l :=
  ⟨rfl, hc, fun w' ho => Kd.C_below h (ho.below (Nat.le_refl _) hs)⟩
end
/-- Changes as they come in as arguments. -/
def inK : Kd Ch := Kd.pair (Kd.int .i64) (Kd.slice 5 (Kd.int .u8))
theorem Chs.of_read {S : Nat → Prop} {w : World} {A : Option Addr} {l : List Ch} (h : Kd.C inK w A l.length l) (hs : ∀ k, S k → w.heap.size ≤ k) : Chs S w A l := by
  have hd : ∃ vs : List (Int × SV), vs.length = l.length ∧ ∀ (j : Nat) v x, vs[j]? = some v → l[j]? = some x → chK.K w v (([.int .i64 x.1, v.2.v] : List Value)) ∧ v.1 = x.1 ∧ v.2.n = x.2.length ∧ x.2.length ≤ v.2.c ∧ ReadB w v.2.A x.2.length x.2 ∧ ∀ ad, A = some ad → w.cell? (ad.add (j * 2)) = some (.int .i64 x.1) ∧ w.cell? (ad.add (j * 2 + 1)) = some v.2.v := by
    have hf : ∀ j : Nat, ∃ v : Int × SV, ∀ x, l[j]? = some x → v.1 = x.1 ∧ v.2.n = x.2.length ∧ x.2.length ≤ v.2.c ∧ ReadB w v.2.A x.2.length x.2 ∧ ∀ ad, A = some ad → w.cell? (ad.add (j * 2)) = some (.int .i64 x.1) ∧ w.cell? (ad.add (j * 2 + 1)) = some v.2.v := by
      intro j
      cases hx : l[j]? with
      | none => exact ⟨(0, ⟨none, 0, 0⟩), fun x h => by cases h⟩
      | some x =>
        have hj : j < l.length := (List.getElem?_eq_some_iff.1 hx).1
        obtain ⟨ad, eA, hc⟩ := h.2.2 (by omega)
        obtain ⟨c, _, ⟨c0, c1, rfl, k0, ⟨Aj, cj, rfl, hle, hr⟩⟩, hcc⟩ := hc j x hx
        have k0 : c0 = [.int .i64 x.1] := k0
        rw [k0] at hcc
        refine ⟨(x.1, ⟨Aj, x.2.length, cj⟩), fun y hy => ?_⟩
        obtain rfl := Option.some.inj hy
        refine ⟨rfl, rfl, hle, hr, fun ad2 e2 => ?_⟩
        rw [eA] at e2
        injection e2 with e2
        subst e2
        exact ⟨hcc 0 _ rfl, hcc 1 _ rfl⟩
    obtain ⟨f, hf⟩ := Classical.axiomOfChoice hf
    refine ⟨(List.range l.length).map f, by simp, fun j v x hv hx => ?_⟩
    have hj : j < l.length := (List.getElem?_eq_some_iff.1 hx).1
    have hv2 : f j = v := by rw [List.getElem?_map, List.getElem?_range hj] at hv; exact Option.some.inj hv
    subst hv2
    obtain ⟨a1, a2, a3, a4, a5⟩ := hf j x hx
    exact ⟨⟨[.int .i64 x.1], [(f j).2.v], rfl, by rw [← a1]; rfl, rfl⟩, a1, a2, a3, a4, a5⟩
  obtain ⟨vs, h1, h2⟩ := hd
  have hC : Kd.C chK w A vs.length vs := by
    refine ⟨rfl, by rw [h1]; exact h.2.1, fun hp => ?_⟩
    obtain ⟨ad, eA, _⟩ := h.2.2 (by omega)
    refine ⟨ad, eA, fun j v hv => ?_⟩
    have hj : j < vs.length := (List.getElem?_eq_some_iff.1 hv).1
    obtain ⟨b1, b2, b3, b4, b5, b6⟩ := h2 j v l[j] hv (List.getElem?_eq_getElem (by omega))
    obtain ⟨q1, q2⟩ := b6 ad eA
    refine ⟨_, rfl, b1, fun i u hu => ?_⟩
    rcases i with _ | _ | i
    · obtain rfl := Option.some.inj hu; exact q1
    · obtain rfl := Option.some.inj hu; exact q2
    · simp at hu
  exact ⟨vs, h1, fun w' ho => Kd.C_below hC (ho.below (Nat.le_refl _) hs), fun j v x hv hx => by
    obtain ⟨b1, b2, b3, b4, b5, b6⟩ := h2 j v x hv hx
    exact ⟨b2, b3, b4, fun w' ho => Kd.C_below b5 (ho.below (Nat.le_refl _) hs)⟩⟩

/-! The journal in memory: a pointer to its disk, and whether it is broken. -/
def IsRedo (w : World) (q : Nat) (L : DL) (br : Bool) : Prop := w.heap[q]? = some (.cells #[.pointer (some ⟨L.p, 0, none⟩), .bool br] 93 (0, 0))
def RS (L : DL) (q : Nat) (k : Nat) : Prop := L.S k ∨ k = q
section
variable {w w' : World} {L : DL} {D : PD} {q : Nat} {br : Bool}
theorem IsRedo.c0 (h : IsRedo w q L br) : w.cell? ⟨q, 0, none⟩ = some (.pointer (some ⟨L.p, 0, none⟩)) := by rw [cell_of_row w q 0 _ _ _ h]; rfl
theorem IsRedo.c1 (h : IsRedo w q L br) : w.cell? ⟨q, 1, none⟩ = some (.bool br) := by rw [cell_of_row w q 1 _ _ _ h]; rfl
theorem IsRedo.f (h : IsRedo w q L br) (j : Nat) : w.frozen? ⟨q, j, none⟩ = false := frozen_of_row w q j _ _ h
theorem IsRedo.lt (h : IsRedo w q L br) : q < w.heap.size := (Array.getElem?_eq_some_iff.1 h).1
theorem IsRedo.only {S : Nat → Prop} (h : IsRedo w q L br) (ho : Only S w w') (hs : ¬ S q) : IsRedo w' q L br := (ho.block q h.lt hs).trans h
/-- The disk's blocks are none of the journal's. -/
theorem IsRedo.apart (h : IsRedo w q L br) (hd : IsDisk w L D) : ¬ L.S q := by
  have h := h
  unfold IsRedo at h
  rintro (rfl | rfl | rfl | rfl)
  · rw [hd.self] at h; injection h with h; injection h with h1 h2; exact absurd h2 (by decide)
  · obtain ⟨cs, h1, _⟩ := hd.stands; rw [h1] at h; injection h with h; injection h with h1 h2; exact absurd h2 (by decide)
  · obtain ⟨_, _, ⟨es2, c2, hp, _⟩, _⟩ := hd.pend; rw [hp] at h; cases h
  · obtain ⟨f, ⟨_, _, ⟨es, c, hb, _⟩, _⟩, _⟩ := hd.bads; rw [hb] at h; cases h
theorem IsRedo.disk (h : IsRedo w q L br) (hd : IsDisk w L D) (ho : Only L.S w w') : IsRedo w' q L br := h.only ho (h.apart hd)
theorem IsRedo.set (h : IsRedo w q L br) (b : Bool) : IsRedo (w.setCell ⟨q, 1, none⟩ (.bool b)) q L b := by
  unfold IsRedo
  rw [heap_setCell_same w q 1 _ _ _ h]; rfl
theorem IsRedo.set_disk (h : IsRedo w q L br) (hd : IsDisk w L D) (b : Bool) : IsDisk (w.setCell ⟨q, 1, none⟩ (.bool b)) L D :=
  hd.only (Only.setCell (S := fun k => k = q) w rfl _) (fun k hk e => h.apart hd (e ▸ hk))
end
end Go.Proofs.Ytdkijmikafmgaaa.Dk
namespace Go.Proofs.Ytdkijmikafmgaaa.Dk
open Go.RowKit Go.Maps Go.Proofs.YtdkijmikafmgaaaW.PrintWords Go.Proofs.YtdkijmikafmgaaaW.PrintLast Go.Proofs.YtdkijmikafmgaaaW.PrintMore
set_option linter.unusedVariables false
set_option linter.unusedSimpArgs false

section
variable {w : World} {L : DL} {D : PD} {q : Nat} {br : Bool}
theorem RLen_any (hd : IsDisk w L D) (hr : IsRedo w q L br) :
    Calls Try.prog 44 #[.pointer (some ⟨q, 0, none⟩)] w fun e w' => e = .returned (.int .i64 ((D.n : Int) - 100)) ∧ w = w' := by
  have c0 := hr.c0
  have hn := hd.good.most
  have HL := Fact.mk (Len_any hd)
  clear hr hd
  go_enter Try.func44, Try.ntmps44
  go_wp2_with (go_at_call 39; refine HL.out.mono ?_; rintro e w' ⟨rfl, rfl⟩)
  go_ret
  exact ⟨rfl, rfl⟩
theorem Rthere_any (hd : IsDisk w L D) (hr : IsRedo w q L br) (i : Int) :
    Calls Try.prog 54 #[.pointer (some ⟨q, 0, none⟩), .int .i64 i] w fun e w' => e = .returned (.bool (decide (0 ≤ i ∧ i < (D.n : Int) - 100))) ∧ w = w' := by
  have HL := Fact.mk (RLen_any hd hr)
  clear hr hd
  go_enter Try.func54, Try.ntmps54
  go_wp2_with (go_at_call 44; refine HL.out.mono ?_; rintro e w' ⟨rfl, rfl⟩)
  all_goals
    go_ret
    refine ⟨ret_bool ?_, rfl⟩
    simp
    try omega
end
/-- 'full(b)': a new sector's bytes. -/
theorem full_any (A : Option Addr) (c : Nat) (b : List Int) (w : World) (hb : b.length ≤ 64) (hr : ReadB w A b.length b) :
    Calls Try.prog 64 #[.slice A b.length c] w fun e w' => e = .returned (.slice (some ⟨w.heap.size, 0, none⟩) 64 64) ∧ w' = w.alloc (.cells ((pad b).map (Value.int .u8)).toArray 5) := by
  have hcp : ∀ (ty : TypeId), (Builtin.copy_ #[37, 37] ty #[.slice (some ⟨w.heap.size, 0, none⟩) 64 64, .slice A b.length c]).run Try.prog (w.alloc (.cells zc 5)) = .ok (.int .i64 (b.length : Int)) (w.alloc (.cells ((pad b).map (Value.int .u8)).toArray 5)) := fun ty => copy_to w zc rfl _ A c b ty hb hr
  have hmk := made64
  clear hr
  go_enter Try.func64, Try.ntmps64
  go_wp2
  go_ret
  exact ⟨rfl, rfl⟩
section
variable {w : World} {L : DL} {D : PD} {q : Nat} {br : Bool}
theorem RRead_no (hd : IsDisk w L D) (hr : IsRedo w q L br) (i : Int) (h : ¬ (0 ≤ i ∧ i < (D.n : Int) - 100)) :
    Calls Try.prog 36 #[.pointer (some ⟨q, 0, none⟩), .int .i64 i] w (ReadsTo w ([], 11)) := by
  have HT := Fact.mk (Rthere_any hd hr i)
  rw [decide_eq_false h] at HT
  clear hd hr h
  go_enter Try.func36, Try.ntmps36
  go_wp2_with (go_at_call 54; refine HT.out.mono ?_; rintro e w' ⟨rfl, rfl⟩)
  go_ret2
  exact reads_err w 11
theorem RRead_broken (hd : IsDisk w L D) (hr : IsRedo w q L true) (i : Int) (h : 0 ≤ i ∧ i < (D.n : Int) - 100) :
    Calls Try.prog 36 #[.pointer (some ⟨q, 0, none⟩), .int .i64 i] w (ReadsTo w ([], 13)) := by
  have HT := Fact.mk (Rthere_any hd hr i)
  rw [decide_eq_true h] at HT
  have c1 := hr.c1
  clear hd hr h
  go_enter Try.func36, Try.ntmps36
  go_wp2_with (go_at_call 54; refine HT.out.mono ?_; rintro e w' ⟨rfl, rfl⟩)
  go_ret2
  exact reads_err w 13
theorem RRead_sound (hd : IsDisk w L D) (hr : IsRedo w q L false) (i : Int) (h : 0 ≤ i ∧ i < (D.n : Int) - 100) :
    Calls Try.prog 36 #[.pointer (some ⟨q, 0, none⟩), .int .i64 i] w (ReadsTo w (D.read (100 + i))) := by
  have HT := Fact.mk (Rthere_any hd hr i)
  rw [decide_eq_true h] at HT
  have c0 := hr.c0
  have c1 := hr.c1
  have hn := hd.good.most
  obtain ⟨h1, h2⟩ := h
  have HR := Fact.mk (Read_any hd (100 + i))
  clear hd hr
  go_enter Try.func36, Try.ntmps36
  go_wp2_with (first | (go_at_call 54; refine HT.out.mono ?_; rintro e w' ⟨rfl, rfl⟩) | (go_at_call 55; refine HR.out.mono ?_; rintro e w' ⟨v, rfl, ho, hb⟩; have HO := Fact.mk ho; have HB := Fact.mk hb; clear ho hb))
  go_ret2
  exact ⟨v, rfl, HO.out, HB.out⟩
/-- '(*Redo).Read'. -/
theorem RRead_any (hd : IsDisk w L D) (hr : IsRedo w q L br) (i : Int) :
    Calls Try.prog 36 #[.pointer (some ⟨q, 0, none⟩), .int .i64 i] w (ReadsTo w (D.rread br i)) := by
  unfold PD.rread
  by_cases h : 0 ≤ i ∧ i < (D.n : Int) - 100
  · rw [if_neg (fun hh => hh h)]
    cases br with
    | true => rw [if_pos rfl]; exact RRead_broken hd hr i h
    | false => rw [if_neg Bool.false_ne_true]; exact RRead_sound hd hr i h
  · rw [if_pos h]; exact RRead_no hd hr i h
end
end Go.Proofs.Ytdkijmikafmgaaa.Dk
namespace Go.Proofs.Ytdkijmikafmgaaa.Dk
open Go.RowKit Go.Maps Go.Proofs.YtdkijmikafmgaaaW.PrintWords Go.Proofs.YtdkijmikafmgaaaW.PrintLast Go.Proofs.YtdkijmikafmgaaaW.PrintMore
set_option linter.unusedVariables false
set_option linter.unusedSimpArgs false

theorem PD.writes_cons (D : PD) (c : Ch) (r : List Ch) : D.writes (c :: r) = if (D.write c.1 c.2).1 = 0 then (D.write c.1 c.2).2.writes r else D.write c.1 c.2 := rfl
section
variable {w : World} {L : DL} {D : PD} {q : Nat} {br : Bool} {S : Nat → Prop}
set_option maxHeartbeats 1000000 in
set_option maxRecDepth 100000 in
/-- '(*Redo).write'. -/
theorem write_any (hd : IsDisk w L D) (hr : IsRedo w q L br) (A : Option Addr) (c : Nat) (l : List Ch) (hl : Chs S w A l) (hS : ∀ k, L.S k → S k) :
    Calls Try.prog 53 #[.pointer (some ⟨q, 0, none⟩), .slice A l.length c] w (DoesTo w L (D.writes l)) := by
  have HR := Fact.mk hr
  have HC := Fact.mk hl
  have hle := hl.le
  have HS := Fact.mk hS
  have HQ := Fact.mk (hr.apart hd)
  have I0 : Fact (∃ D', IsDisk w L D' ∧ D'.writes l = D.writes l) := ⟨D, hd, rfl⟩
  clear hd hr hl hS
  go_enter Try.func53, Try.ntmps53
  go_wp2_with fail
  go_loopw [10] (fun v10 wr => ∃ j : Nat, v10 = .int .i64 (j : Int) ∧ j ≤ l.length ∧ Fact (∃ D', IsDisk wr L D' ∧ D'.writes (l.drop j) = D.writes l) ∧ Fact (Only L.S w wr)) (fun v _ => l.length - (intOf v).toNat)
  case atStart => exact ⟨0, rfl, Nat.zero_le _, I0, ⟨Only.refl _ _⟩⟩
  case round =>
    obtain ⟨j, rfl, hj, R1, R2⟩ := hrel
    clear I0
    obtain ⟨D', hD, hE⟩ := R1.out
    have HD := Fact.mk hD
    have HE := Fact.mk hE
    clear R1 hD hE
    by_cases hlt : j < l.length
    · have hlt2 : (j : Int) < (l.length : Int) := by omega
      have hx : l[j]? = some l[j] := List.getElem?_eq_getElem hlt
      have HX : Fact (l.drop j = l[j] :: l.drop (j + 1)) := ⟨List.drop_eq_getElem_cons hlt⟩
      obtain ⟨ad, As, cs, hA, hs, hc⟩ := HC.out.at_ hx
      subst hA
      obtain ⟨c0, c1⟩ := hc wr (R2.out.mono HS.out)
      have HSee := Fact.mk (hs.step (R2.out.mono HS.out))
      clear hs hc hx
      generalize l[j] = x at *
      go_wp2_with fail
      have hnew := heap_alloc_new wr (.cells #[.int .i64 x.1, .slice As x.2.length cs] 111)
      refine region_tail 8 (by kernel_rfl) (by kernel_rfl) ?_
      intro W hW
      have OW : Fact (Only L.S w W) := by subst hW; exact ⟨(R2.out.trans (Only.alloc _ _ _)).drew⟩
      have HDW : Fact (IsDisk W L D') := by subst hW; exact ⟨(HD.out.alloc _).drew⟩
      have HSW : Fact (Sees S W ⟨As, x.2.length, cs⟩ x.2) := by subst hW; exact ⟨HSee.out.step (Only.alloc S wr _).drew⟩
      have cq := (HR.out.only OW.out HQ.out).c0
      have d0 : W.cell? ⟨wr.heap.size, 0, none⟩ = some (.int .i64 x.1) := by subst hW; exact (cell_of_row _ _ 0 _ _ _ hnew).trans rfl
      have d1 : W.cell? ⟨wr.heap.size, 1, none⟩ = some (.slice As x.2.length cs) := by subst hW; exact (cell_of_row _ _ 1 _ _ _ hnew).trans rfl
      clear hW hnew HSee HD R2 c0 c1
      generalize wr.heap.size = g at *
      clear wr
      simp only [List.take_succ_cons, List.take_zero, List.drop_succ_cons, List.drop_zero]
      iterate 8 still_step
      refine wpStill_nil ?_
      go_wp2_with fail
      refine (Write_any HDW.out x.1 As cs x.2 (HSW.out.reads _ (Only.refl _ _)) (fun w' ho => HSW.out.reads w' (ho.mono HS.out))).mono ?_
      rintro e w2 ⟨rfl, h2, o2⟩
      have H2 := Fact.mk h2
      have O2 := Fact.mk (OW.out.trans o2)
      clear h2 o2 OW HDW HSW d0 d1 cq
      have HE2 := HE.out
      rw [HX.out, PD.writes_cons] at HE2
      by_cases hr : (D'.write x.1 x.2).1 = 0
      · rw [if_pos hr] at HE2
        have HE2 := Fact.mk HE2
        generalize D'.write x.1 x.2 = r at *
        obtain ⟨r1, r2⟩ := r
        obtain rfl : r1 = 0 := hr
        clear HE HX
        go_wp2_with fail
        exact ⟨⟨j + 1, by go_num, by omega, ⟨r2, H2.out, HE2.out⟩, O2⟩, by simp [intOf]; omega⟩
      · rw [if_neg hr] at HE2
        have HE2 := Fact.mk HE2
        generalize D'.write x.1 x.2 = r at *
        obtain ⟨r1, r2⟩ := r
        have hr : ¬ r1 = 0 := hr
        clear HE HX
        go_wp2_with fail
        go_ret
        rw [← HE2.out]
        exact ⟨rfl, H2.out, O2.out⟩
    · have he : j = l.length := by omega
      subst he
      have hlt2 : ¬ ((l.length : Int) < (l.length : Int)) := by omega
      have cq := (HR.out.only R2.out HQ.out).c0
      have HE2 := HE.out
      rw [List.drop_eq_nil_of_le (Nat.le_refl _)] at HE2
      have HE2 : Fact (D'.flush = D.writes l) := ⟨HE2⟩
      clear HE
      go_wp2_with fail
      refine (Flush_any HD.out).mono ?_
      rintro e w2 ⟨rfl, h2, o2⟩
      have H2 := Fact.mk h2
      have O2 := Fact.mk (R2.out.trans o2)
      clear h2 o2
      go_wp2_with fail
      go_ret
      rw [← HE2.out]
      exact ⟨rfl, H2.out, O2.out⟩
end
end Go.Proofs.Ytdkijmikafmgaaa.Dk
namespace Go.Proofs.Ytdkijmikafmgaaa.Dk
open Go.RowKit Go.Maps Go.Proofs.YtdkijmikafmgaaaW.PrintWords Go.Proofs.YtdkijmikafmgaaaW.PrintLast Go.Proofs.YtdkijmikafmgaaaW.PrintMore
set_option linter.unusedVariables false
set_option linter.unusedSimpArgs false

theorem info_ch : (Try.prog.info? 111).map (fun i => (i.zero, i.size, i.bytes)) = some (some (.agg #[.int .i64 0, .slice none 0 0]), 2, 32) := by kernel_rfl
def Listed (S : Nat → Prop) (w : World) (f : Int → Int) (l : List Ch) (vs : List (Int × SV)) : Prop := ∀ (i : Nat) v x, vs[i]? = some v → l[i]? = some x → v.1 = f x.1 ∧ Sees S w v.2 x.2
theorem Listed.snoc {S : Nat → Prop} {w : World} {f : Int → Int} {l : List Ch} {vs : List (Int × SV)} (h : Listed S w f l vs) {j : Nat} (hj : vs.length = j) {x : Ch} (hx : l[j]? = some x) {n : Int} (hn : n = f x.1) {s : SV} (hs : Sees S w s x.2) : Listed S w f l (vs ++ [(n, s)]) := by
  intro i v y hv hy
  rcases Nat.lt_trichotomy i vs.length with hi | hi | hi
  · rw [List.getElem?_append_left hi] at hv; exact h i v y hv hy
  · subst hi; subst hj
    rw [List.getElem?_append_right (Nat.le_refl _), Nat.sub_self] at hv
    obtain rfl := Option.some.inj hv
    rw [hx] at hy
    obtain rfl := Option.some.inj hy
    exact ⟨hn, hs⟩
  · rw [List.getElem?_eq_none (by simp; omega)] at hv; cases hv
theorem M_ch (W : World) (base : Nat) (ok : Nat → Prop) (n : Int) (s : SV) : chK.M W base ok (n, s) [.int .i64 n, .slice s.A s.n s.c] := ⟨[.int .i64 n], [s.v], rfl, rfl, rfl⟩
theorem one_change (w : World) (S : Nat → Prop) (hs : ∀ k, S k → k < w.heap.size) (n : Int) : Chs S (w.alloc (.cells #[.int .i64 n, .slice none 0 0] 111)) (some ⟨w.heap.size, 0, none⟩) [(n, [])] := by
  have hR : Kd.R chK 111 (w.alloc (.cells #[.int .i64 n, .slice none 0 0] 111)) w.heap.size (fun k => w.heap.size ≤ k) (.slice (some ⟨w.heap.size, 0, none⟩) 1 1) [(n, ⟨none, 0, 0⟩)] :=
    ⟨fun k hk => by simp [Value.ownBlock] at hk; omega, OwnRow.lit w w.heap.size (Reps.c2 (M_ch _ _ _ n ⟨none, 0, 0⟩) (Reps.none _ _)) (Nat.le_refl _) (by simp)⟩
  refine Chs.of_own hR (fun k hk h => by have := hs k h; omega) rfl ?_
  intro j v x hv hx
  rcases j with _ | j
  · obtain rfl := Option.some.inj hv
    obtain rfl := Option.some.inj hx
    exact ⟨rfl, rfl, Nat.le_refl _, fun w' _ => ⟨rfl, by simp, fun h => absurd h (by simp)⟩⟩
  · cases hv
section
variable {w : World} {L : DL} {D : PD} {q : Nat} {br : Bool} {S : Nat → Prop}
set_option maxHeartbeats 1000000 in
set_option maxRecDepth 100000 in
/-- '(*Redo).finish'. -/
theorem finish_any (hd : IsDisk w L D) (hr : IsRedo w q L br) (A : Option Addr) (c : Nat) (l : List Ch) (hl : Chs S w A l) (hS : ∀ k, L.S k → S k) (hlt0 : ∀ k, S k → k < w.heap.size) (hb : ∀ x ∈ l, 0 ≤ x.1 ∧ x.1 ≤ 4096) (hlen : l.length ≤ 96) :
    Calls Try.prog 41 #[.pointer (some ⟨q, 0, none⟩), .slice A l.length c] w (DoesTo w L (D.finish l)) := by
  have HR := Fact.mk hr
  have HD := Fact.mk hd
  have HC := Fact.mk hl
  have HS := Fact.mk hS
  have HLt := Fact.mk hlt0
  have HQ := Fact.mk (hr.apart hd)
  have HB := Fact.mk hb
  have I0 : Fact (∃ vs, vs.length = 0 ∧ Kd.R chK 111 w w.heap.size (fun k => w.heap.size ≤ k) (.slice none 0 0) vs ∧ Listed S w (fun n => 100 + n) l vs) := ⟨[], rfl, Kd.R_nil _ _ _ _ _, fun i v x hv => by simp at hv⟩
  clear hd hr hl hS hb hlt0
  go_enter Try.func41, Try.ntmps41
  go_wp2_with fail
  go_loopw [5, 11] (fun v5 v11 wr => ∃ j : Nat, v11 = .int .i64 (j : Int) ∧ j ≤ l.length ∧ Fact (∃ vs, vs.length = j ∧ Kd.R chK 111 wr w.heap.size (fun k => w.heap.size ≤ k) v5 vs ∧ Listed S w (fun n => 100 + n) l vs) ∧ Fact (Below w.heap.size w wr)) (fun _ v _ => l.length - (intOf v).toNat)
  case atStart => exact ⟨0, rfl, Nat.zero_le _, I0, ⟨Below.refl _ _⟩⟩
  case round =>
    obtain ⟨j, rfl, hj, R1, R2⟩ := hrel
    clear I0
    obtain ⟨vs, hvl, hR, hL⟩ := R1.out
    obtain ⟨A5, c5, rfl⟩ := Kd.R_slice hR
    have HV := Fact.mk hR
    have HLs := Fact.mk hL
    clear R1 hR hL
    by_cases hlt : j < l.length
    · have hlt2 : (j : Int) < (l.length : Int) := by omega
      have hx : l[j]? = some l[j] := List.getElem?_eq_getElem hlt
      have HX := Fact.mk hx
      obtain ⟨hb1, hb2⟩ := HB.out l[j] (List.getElem_mem hlt)
      obtain ⟨ad, As, cs, hA, hs, hc⟩ := HC.out.at_ hx
      subst hA
      obtain ⟨c0, c1⟩ := hc wr (Only.of_below R2.out S)
      have HSee := Fact.mk hs
      have hbase : w.heap.size ≤ wr.heap.size := R2.out.size
      clear hs hc hx
      generalize l[j] = x at *
      go_wp2_with ((with_reducible refine gate_builtin (b := .append) (xs := #[.tmp 15, .tmp 22]) rfl ?_); at_builtin; refine Kd.R_append chK (w0 := w) w.heap.size rfl (.tmp 15) (.tmp 22) 79 111 (.agg #[.int .i64 0, .slice none 0 0]) 32 rfl Try.underlying79 info_ch rfl (by decide) (by decide) (.slice A5 vs.length c5) vs (100 + x.1, ⟨As, x.2.length, cs⟩) [.int .i64 (100 + x.1), .slice As x.2.length cs] (fun k => w.heap.size ≤ k) (fun _ => False) rfl ?aX (M_ch _ _ _ _ ⟨As, x.2.length, cs⟩) (fun _ h => h.elim) ?aF ?aO ?aB ?aS ?aL ?_; (case aX => show Value.slice (some ⟨wr.heap.size + 1, 0, none⟩) 1 1 = _; simp); (case aF => intro k hk; simp at hk; omega); (case aO => exact Kd.R_below HV.out (below_alloc (Below.refl _ _) _)); (case aB => exact R2.out.alloc hbase _); (case aS => simp; omega); (case aL => omega); intro v5 w1 ho hb hg hat; have HO := Fact.mk ho; have B1 := Fact.mk hb; clear ho hb hg hat)
      exact ⟨⟨j + 1, by go_num, by omega, ⟨_, by simp [hvl], HO.out, HLs.out.snoc hvl HX.out rfl HSee.out⟩, B1⟩, by simp [intOf]; omega⟩
    · have he : j = l.length := by omega
      subst he
      have hlt2 : ¬ ((l.length : Int) < (l.length : Int)) := by omega
      have HChs : Fact (Chs S wr A5 (l.map fun x => (100 + x.1, x.2))) := ⟨Chs.of_own HV.out (fun k hk h => by have := HLt.out k h; omega) (by simp [hvl]) (fun i v y hv hy => by
        rw [List.getElem?_map] at hy
        cases hx : l[i]? with
        | none => rw [hx] at hy; cases hy
        | some x =>
          rw [hx] at hy
          obtain rfl := Option.some.inj hy
          obtain ⟨e1, e2⟩ := HLs.out i v x hv hx
          exact ⟨e1, e2.step (Only.of_below R2.out S)⟩)⟩
      have HD1 : Fact (IsDisk wr L D) := ⟨HD.out.below R2.out⟩
      have HR1 : Fact (IsRedo wr q L br) := ⟨HR.out.only (Only.of_below R2.out L.S) HQ.out⟩
      have HF : Fact (D.finish l = if (D.writes (l.map fun c => (100 + c.1, c.2))).1 = 0 then (D.writes (l.map fun c => (100 + c.1, c.2))).2.writes [(0, [])] else D.writes (l.map fun c => (100 + c.1, c.2))) := ⟨rfl⟩
      have hvl2 : vs.length = (l.map fun x : Ch => (100 + x.1, x.2)).length := by simp [hvl]
      generalize (l.map fun x : Ch => (100 + x.1, x.2)) = l2 at *
      rw [hvl2]
      clear HV HLs
      go_wp2_with fail
      refine (write_any HD1.out HR1.out A5 c5 l2 HChs.out HS.out).mono ?_
      rintro e w2 ⟨rfl, h2, o2⟩
      have H2 := Fact.mk h2
      have O2 : Fact (Only L.S w w2) := ⟨(Only.of_below R2.out L.S).trans o2⟩
      have Q2 : Fact (IsRedo w2 q L br) := ⟨HR1.out.only o2 HQ.out⟩
      clear h2 o2 HD1 HR1 HChs
      by_cases hr : (D.writes l2).1 = 0
      · have HF2 := HF.out
        rw [if_pos hr] at HF2
        have HF2 := Fact.mk HF2
        generalize D.writes l2 = r at *
        obtain ⟨r1, r2⟩ := r
        obtain rfl : r1 = 0 := hr
        clear HF
        go_wp2_with fail
        refine (write_any (S := S) (H2.out.alloc _) (Q2.out.only (Only.alloc L.S _ _) HQ.out) _ 1 [(0, [])] (one_change w2 S (fun k hk => Nat.lt_of_lt_of_le (HLt.out k hk) O2.out.size) 0) HS.out).mono ?_
        rintro e w3 ⟨rfl, h3, o3⟩
        have H3 := Fact.mk h3
        have O3 : Fact (Only L.S w w3) := ⟨O2.out.trans ((Only.alloc L.S _ _).trans o3)⟩
        clear h3 o3
        go_wp2_with fail
        go_ret
        rw [HF2.out]
        exact ⟨rfl, H3.out, O3.out⟩
      · have HF2 := HF.out
        rw [if_neg hr] at HF2
        have HF2 := Fact.mk HF2
        generalize D.writes l2 = r at *
        obtain ⟨r1, r2⟩ := r
        have hr : ¬ r1 = 0 := hr
        clear HF
        go_wp2_with fail
        go_ret
        rw [HF2.out]
        exact ⟨rfl, H2.out, O2.out⟩
end
end Go.Proofs.Ytdkijmikafmgaaa.Dk
namespace Go.Proofs.Ytdkijmikafmgaaa.Dk
open Go.RowKit Go.Maps Go.Proofs.YtdkijmikafmgaaaW.PrintWords Go.Proofs.YtdkijmikafmgaaaW.PrintLast Go.Proofs.YtdkijmikafmgaaaW.PrintMore
set_option linter.unusedVariables false
set_option linter.unusedSimpArgs false

/-- The first j changes are right so far. -/
structure RightTo (n : Int) (l : List Ch) (j : Nat) : Prop where
  ok : ∀ c ∈ l.take j, 0 ≤ c.1 ∧ c.1 < n ∧ c.2.length ≤ 64
  nodup : ((l.take j).map (·.1)).Nodup
theorem RightTo.start (n : Int) (l : List Ch) : RightTo n l 0 := ⟨fun c h => by simp at h, by simp⟩
theorem RightTo.step {n : Int} {l : List Ch} {j : Nat} (h : RightTo n l j) {x : Ch} (hx : l[j]? = some x) (h0 : 0 ≤ x.1) (h1 : x.1 < n) (h2 : x.2.length ≤ 64) (h3 : ¬ x.1 ∈ (l.take j).map (·.1)) : RightTo n l (j + 1) := by
  have e : l.take (j + 1) = l.take j ++ [x] := by rw [List.take_add_one, hx]; rfl
  refine ⟨?_, ?_⟩
  · rw [e]; intro c hc
    rcases List.mem_append.1 hc with hc | hc
    · exact h.ok c hc
    · obtain rfl := List.mem_singleton.1 hc; exact ⟨h0, h1, h2⟩
  · rw [e, List.map_append]
    refine List.nodup_append.2 ⟨h.nodup, by simp, ?_⟩
    intro a ha b hb
    have hb : b = x.1 := by simpa using hb
    subst hb
    rintro rfl
    exact h3 ha
theorem RightTo.bad {n : Int} {l : List Ch} {x : Ch} {j : Nat} (hx : l[j]? = some x) (h : ¬ (0 ≤ x.1 ∧ x.1 < n) ∨ 64 < x.2.length ∨ x.1 ∈ (l.take j).map (·.1)) : rightOf n l = false := by
  unfold rightOf
  rw [decide_eq_false_iff_not]
  rintro ⟨h1, h2, h3⟩
  have hm : x ∈ l := List.mem_of_getElem? hx
  obtain ⟨a, b, c⟩ := h1 x hm
  rcases h with h | h | h
  · exact h ⟨a, b⟩
  · omega
  · have e : l = l.take j ++ x :: l.drop (j + 1) := by
      have hj := (List.getElem?_eq_some_iff.1 hx)
      obtain ⟨hj, e⟩ := hj
      rw [← e, ← List.drop_eq_getElem_cons hj, List.take_append_drop]
    rw [e, List.map_append] at h2
    exact (List.nodup_append.1 h2).2.2 x.1 h x.1 (by simp) rfl
theorem RightTo.done {n : Int} {l : List Ch} (h : RightTo n l l.length) : rightOf n l = decide (1 ≤ l.length ∧ l.length ≤ 96) := by
  unfold rightOf
  have h1 := h.ok
  have h2 := h.nodup
  rw [List.take_length] at h1 h2
  apply decide_eq_decide.2
  exact ⟨fun hh => hh.2.2, fun hh => ⟨h1, h2, hh⟩⟩
def seenOf (l : List Ch) (j : Nat) (i : Nat) : Option Value := if (i : Int) ∈ (l.take j).map (·.1) then some (.bool true) else none
theorem seenOf_step {l : List Ch} {j : Nat} {x : Ch} (hx : l[j]? = some x) {k : Nat} (hk : x.1 = (k : Int)) : (fun i => if i = k then some (Value.bool true) else seenOf l j i) = seenOf l (j + 1) := by
  have e : l.take (j + 1) = l.take j ++ [x] := by rw [List.take_add_one, hx]; rfl
  funext i
  unfold seenOf
  rw [e]
  by_cases h : i = k
  · subst h; rw [if_pos rfl, if_pos (by simp [hk])]
  · rw [if_neg h]
    by_cases h2 : (i : Int) ∈ (l.take j).map (·.1)
    · rw [if_pos h2, if_pos (by rw [List.map_append]; exact List.mem_append_left _ h2)]
    · rw [if_neg h2, if_neg (by rw [List.map_append]; intro h3; rcases List.mem_append.1 h3 with h3 | h3; exact h2 h3; simp [hk] at h3; omega)]
theorem gate_put {P : Program} {ops : Array Oper} {rest : List Oper} {o : Oper} {a : Act} {Q : Exit → Act → World → Prop} {W : World} (m x v : Operand) (t : TypeId) (_ho : o.op = .mapUpdate t m x v) (h : wpList P ops Q (o :: rest) a W) : wpList P ops Q (o :: rest) a W := h
section
variable {w : World} {L : DL} {D : PD} {q : Nat} {br : Bool} {S : Nat → Prop}
set_option maxHeartbeats 1000000 in
set_option maxRecDepth 100000 in
/-- '(*Redo).right'. -/
theorem right_any (hd : IsDisk w L D) (hr : IsRedo w q L br) (A : Option Addr) (c : Nat) (l : List Ch) (hl : Chs S w A l) :
    Calls Try.prog 51 #[.pointer (some ⟨q, 0, none⟩), .slice A l.length c] w fun e w' => e = .returned (.bool (rightOf ((D.n : Int) - 100) l)) ∧ Below w.heap.size w w' := by
  have HR := Fact.mk hr
  have HD := Fact.mk hd
  have HC := Fact.mk hl
  have hle := hl.le
  have hn := hd.good.most
  have HQ := Fact.mk (hr.apart hd)
  have hmm := @run_makeMap Try.prog
  have I0 : Fact (RightTo ((D.n : Int) - 100) l 0 ∧ IntMap Try.prog (w.alloc (.map #[] 0)) w.heap.size (seenOf l 0) D.n) := ⟨RightTo.start _ _, by
    have := IntMap.made Try.prog w D.n
    have e : seenOf l 0 = fun _ => none := by funext i; simp [seenOf]
    rw [e]; exact this⟩
  clear hd hr hl
  go_enter Try.func51, Try.ntmps51
  go_wp2_with fail
  clear hmm
  go_loopw [11] (fun v11 wr => ∃ j : Nat, v11 = .int .i64 (j : Int) ∧ j ≤ l.length ∧ Fact (RightTo ((D.n : Int) - 100) l j ∧ IntMap Try.prog wr w.heap.size (seenOf l j) D.n) ∧ Fact (Below w.heap.size w wr)) (fun v _ => l.length - (intOf v).toNat)
  case atStart => exact ⟨0, rfl, Nat.zero_le _, I0, ⟨(Below.refl _ _).alloc (Nat.le_refl _) _⟩⟩
  case round =>
    obtain ⟨j, rfl, hj, R1, R2⟩ := hrel
    clear I0
    by_cases hlt : j < l.length
    · have hlt2 : (j : Int) < (l.length : Int) := by omega
      have hx : l[j]? = some l[j] := List.getElem?_eq_getElem hlt
      have HX := Fact.mk hx
      obtain ⟨ad, As, cs, hA, hs, hc⟩ := HC.out.at_ hx
      subst hA
      obtain ⟨c0, c1⟩ := hc wr (Only.of_below R2.out S)
      have hbase : w.heap.size ≤ wr.heap.size := R2.out.size
      clear hs hc hx
      generalize l[j] = x at *
      have HT : Fact (∀ o, Calls Try.prog 54 #[.pointer (some ⟨q, 0, none⟩), .int .i64 x.1] (wr.alloc o) fun e w' => e = .returned (.bool (decide (0 ≤ x.1 ∧ x.1 < (D.n : Int) - 100))) ∧ wr.alloc o = w') := ⟨fun o => Rthere_any ((HD.out.below R2.out).alloc o) ((HR.out.only (Only.of_below R2.out L.S) HQ.out).only (Only.alloc L.S _ _) HQ.out) x.1⟩
      by_cases h1 : 0 ≤ x.1 ∧ x.1 < (D.n : Int) - 100
      · rw [decide_eq_true h1] at HT
        by_cases h2 : x.2.length ≤ 64
        · have h2i : ((x.2.length : Int)) ≤ 64 := by omega
          obtain ⟨k, hk⟩ := Int.eq_ofNat_of_zero_le h1.1
          have hkn : k < D.n := by omega
          by_cases h3 : x.1 ∈ (l.take j).map (·.1)
          · have hlk : ∀ o, (Instr.lookup 77 (.map (some w.heap.size)) (.int .i64 x.1) false).run Try.prog (wr.alloc o) = .ok (.bool true) (wr.alloc o) := fun o => by
              rw [hk, ((R1.out.2).move (Below.heap_alloc _ _ _ (R1.out.2).lt)).look int_t Try.underlying77 (zero_bool _) k (by omega)]
              rw [seenOf, if_pos (hk ▸ h3)]; rfl
            have HZ := Fact.mk (RightTo.bad (n := (D.n : Int) - 100) HX.out (.inr (.inr h3)))
            clear h3 h1 hk HX
            go_wp2_with (go_at_call 54; refine (HT.out _).mono ?_; rintro e w' ⟨rfl, rfl⟩)
            go_ret
            rw [HZ.out]
            exact ⟨rfl, R2.out.alloc hbase _⟩
          · have hlk : ∀ o, (Instr.lookup 77 (.map (some w.heap.size)) (.int .i64 x.1) false).run Try.prog (wr.alloc o) = .ok (.bool false) (wr.alloc o) := fun o => by
              rw [hk, ((R1.out.2).move (Below.heap_alloc _ _ _ (R1.out.2).lt)).look int_t Try.underlying77 (zero_bool _) k (by omega)]
              rw [seenOf, if_neg (hk ▸ h3)]; rfl
            have HZ := Fact.mk (R1.out.1.step HX.out h1.1 h1.2 h2 h3)
            have HK : Fact (Value.int .i64 x.1 = Value.int .i64 (k : Int)) := ⟨by rw [hk]⟩
            have HKx := Fact.mk hk
            have HMo : Fact (∀ o, IntMap Try.prog (wr.alloc o) w.heap.size (seenOf l j) D.n) := ⟨fun o => (R1.out.2).move (Below.heap_alloc _ _ _ (R1.out.2).lt)⟩
            clear h3 h1 hk
            go_wp2_with (first | (go_at_call 54; refine (HT.out _).mono ?_; rintro e w' ⟨rfl, rfl⟩) | ((with_reducible refine gate_put (.tmp 32) (.tmp 34) (.const (.bool true)) 77 rfl ?_); refine wpList_put_map rfl (.tmp 32) (.tmp 34) (.const (.bool true)) 77 4 rfl int_t Try.underlying77 w.heap.size D.n _ (HMo.out _) (by omega) rfl k HK.out hkn (.bool true) rfl ?_; intro w3 hm3 ht3; have HM := Fact.mk hm3; have HT3 := Fact.mk ht3; clear hm3 ht3))
            refine ⟨⟨j + 1, by go_num, by omega, ⟨HZ.out, by rw [← seenOf_step HX.out HKx.out]; exact HM.out⟩, ⟨?_⟩⟩, by simp [intOf]; omega⟩
            exact (R2.out.alloc hbase _).trans ((Only.mapTurned (S := fun k => k = w.heap.size) HT3.out rfl).below (by simp; omega) (fun k hk => by omega))
        · have h2i : (64 : Int) < (x.2.length : Int) := by omega
          have HZ := Fact.mk (RightTo.bad (n := (D.n : Int) - 100) HX.out (.inr (.inl (by omega))))
          clear h1 HX
          go_wp2_with (go_at_call 54; refine (HT.out _).mono ?_; rintro e w' ⟨rfl, rfl⟩)
          go_ret
          rw [HZ.out]
          exact ⟨rfl, R2.out.alloc hbase _⟩
      · rw [decide_eq_false h1] at HT
        have HZ := Fact.mk (RightTo.bad (n := (D.n : Int) - 100) HX.out (.inl h1))
        clear h1 HX
        go_wp2_with (go_at_call 54; refine (HT.out _).mono ?_; rintro e w' ⟨rfl, rfl⟩)
        go_ret
        rw [HZ.out]
        exact ⟨rfl, R2.out.alloc hbase _⟩
    · have he : j = l.length := by omega
      subst he
      have hlt2 : ¬ ((l.length : Int) < (l.length : Int)) := by omega
      have HZ := Fact.mk (R1.out.1.done)
      clear R1
      go_wp2_with fail
      all_goals
        go_ret
        rw [HZ.out]
        refine ⟨ret_bool (Bool.eq_iff_iff.2 ?_), R2.out⟩
        first | (simp; done) | (simp; omega) | omega
end
end Go.Proofs.Ytdkijmikafmgaaa.Dk
namespace Go.Proofs.Ytdkijmikafmgaaa.Dk
open Go.RowKit Go.Maps Go.Proofs.YtdkijmikafmgaaaW.PrintWords Go.Proofs.YtdkijmikafmgaaaW.PrintLast Go.Proofs.YtdkijmikafmgaaaW.PrintMore
set_option linter.unusedVariables false
set_option linter.unusedSimpArgs false

theorem read_cell {w : World} {A : Option Addr} {l : List Int} (h : ReadB w A l.length l) {k : Nat} (hk : k < l.length) : ∃ ad, A = some ad ∧ w.cell? (ad.add k) = some (.int .u8 l[k]) := by
  obtain ⟨ad, e, hc⟩ := h.2.2 (by omega)
  obtain ⟨c, h1, h2, h3⟩ := hc k l[k] (List.getElem?_eq_getElem hk)
  refine ⟨ad, e, ?_⟩
  have := h3 0 (.int .u8 l[k]) (by rw [show c = [.int .u8 l[k]] from h2]; rfl)
  simpa [Kd.int, Kd.scalar] using this
theorem sumStep_range (n c : Int) : 0 ≤ sumStep n c ∧ sumStep n c < 4294967296 := by unfold sumStep; omega
theorem sumRow_range (b : List Int) : ∀ n, 0 ≤ n ∧ n < 4294967296 → 0 ≤ b.foldl sumStep n ∧ b.foldl sumStep n < 4294967296 := by
  induction b with
  | nil => intro n h; exact h
  | cons c r ih => intro n h; exact ih _ (sumStep_range n c)
theorem sumOf_range (rows : List (List Int)) : ∀ n, 0 ≤ n ∧ n < 4294967296 → 0 ≤ sumOf n rows ∧ sumOf n rows < 4294967296 := by
  induction rows with
  | nil => intro n h; exact h
  | cons b r ih => intro n h; exact ih _ (sumRow_range b n h)
theorem foldl_drop {α β : Type} (f : β → α → β) (b : β) {l : List α} {j : Nat} (hj : j < l.length) : (l.drop j).foldl f b = (l.drop (j + 1)).foldl f (f b l[j]) := by rw [List.drop_eq_getElem_cons hj]; rfl
set_option maxHeartbeats 1000000 in
set_option maxRecDepth 100000 in
theorem sum_any {S : Nat → Prop} {w : World} (n : Int) (hn : 0 ≤ n ∧ n < 4294967296) (A : Option Addr) (c : Nat) (rows : List (List Int)) (hr : Rws S w A rows) :
    Calls Try.prog 65 #[.int .u32 n, .slice A rows.length c] w fun e w' => e = .returned (.int .u32 (sumOf n rows)) ∧ w = w' := by
  have HC := Fact.mk hr
  have hle := hr.le
  have I0 : Fact (sumOf n (rows.drop 0) = sumOf n rows) := ⟨rfl⟩
  clear hr
  go_enter Try.func65, Try.ntmps65
  go_wp2_with fail
  go_loopw [0, 11] (fun v0 v11 wr => ∃ m : Int, ∃ j : Nat, v0 = .int .u32 m ∧ v11 = .int .i64 (j : Int) ∧ j ≤ rows.length ∧ (0 ≤ m ∧ m < 4294967296) ∧ Fact (sumOf m (rows.drop j) = sumOf n rows) ∧ wr = w) (fun _ v _ => rows.length - (intOf v).toNat)
  case atStart => exact ⟨n, 0, rfl, rfl, Nat.zero_le _, hn, I0, rfl⟩
  case round =>
    obtain ⟨m, j, rfl, rfl, hj, hm, R1, rfl⟩ := hrel
    clear I0 hn
    by_cases hlt : j < rows.length
    · have hlt2 : (j : Int) < (rows.length : Int) := by omega
      have hx : rows[j]? = some rows[j] := List.getElem?_eq_getElem hlt
      have HE : Fact (∀ m', sumOf m' (rows.drop j) = sumOf ((rows[j]).foldl sumStep m') (rows.drop (j + 1))) := ⟨fun m' => foldl_drop _ _ hlt⟩
      obtain ⟨ad, As, cs, hA, hs, hc⟩ := HC.out.at_ hx
      subst hA
      have c0 := hc wr (Only.refl _ _)
      have HSee := Fact.mk (hs.reads _ (Only.refl _ _))
      have hxl : rows[j].length ≤ 9223372036854775807 := HSee.out.2.1
      clear hs hc hx HC
      generalize rows[j] = x at *
      go_wp2_with fail
      have I1 : Fact (sumOf ((x.drop 0).foldl sumStep m) (rows.drop (j + 1)) = sumOf n rows) := ⟨by rw [List.drop_zero, ← HE.out]; exact R1.out⟩
      clear R1 HE
      go_loopw [0, 17] (fun v0 v17 wq => ∃ m : Int, ∃ i : Nat, v0 = .int .u32 m ∧ v17 = .int .i64 (i : Int) ∧ i ≤ x.length ∧ (0 ≤ m ∧ m < 4294967296) ∧ Fact (sumOf ((x.drop i).foldl sumStep m) (rows.drop (j + 1)) = sumOf n rows) ∧ wq = wr) (fun _ v _ => x.length - (intOf v).toNat)
      case atStart => exact ⟨m, 0, rfl, rfl, Nat.zero_le _, hm, I1, rfl⟩
      case round =>
        obtain ⟨m, i, rfl, rfl, hi, hm, R1, rfl⟩ := hrel
        clear I1
        by_cases hlt3 : i < x.length
        · have hlt4 : (i : Int) < (x.length : Int) := by omega
          obtain ⟨ad2, hA2, d0⟩ := read_cell HSee.out hlt3
          subst hA2
          have HE : Fact ((x.drop i).foldl sumStep m = (x.drop (i + 1)).foldl sumStep (sumStep m x[i])) := ⟨foldl_drop _ _ hlt3⟩
          generalize x[i] = y at *
          go_wp2_with fail
          have hz := sumStep_range m y
          exact ⟨⟨_, i + 1, rfl, by go_num, by omega, hz, ⟨by have := R1.out; rwa [HE.out] at this⟩, trivial⟩, by simp [intOf]; omega⟩
        · have he : i = x.length := by omega
          subst he
          have hlt4 : ¬ ((x.length : Int) < (x.length : Int)) := by omega
          have R2 : Fact (sumOf m (rows.drop (j + 1)) = sumOf n rows) := ⟨by have := R1.out; rwa [List.drop_eq_nil_of_le (Nat.le_refl _)] at this⟩
          clear R1
          go_wp2_with fail
          exact ⟨⟨m, j + 1, rfl, by go_num, by omega, hm, R2, trivial⟩, by simp [intOf]; omega⟩
    · have he : j = rows.length := by omega
      subst he
      have hlt2 : ¬ ((rows.length : Int) < (rows.length : Int)) := by omega
      have R2 : Fact (m = sumOf n rows) := ⟨by have := R1.out; rwa [List.drop_eq_nil_of_le (Nat.le_refl _)] at this⟩
      clear R1
      go_wp2_with fail
      go_ret
      rw [R2.out]
      exact ⟨rfl, rfl⟩
end Go.Proofs.Ytdkijmikafmgaaa.Dk
namespace Go.Proofs.Ytdkijmikafmgaaa.Dk
open Go.RowKit Go.Maps Go.Proofs.YtdkijmikafmgaaaW.PrintWords Go.Proofs.YtdkijmikafmgaaaW.PrintLast Go.Proofs.YtdkijmikafmgaaaW.PrintMore
set_option linter.unusedVariables false
set_option linter.unusedSimpArgs false

section
variable {P : Program} (w : World)
def zs (m : Nat) : List Value := List.replicate m (.int .u8 0)
theorem zeroCells_u8 (m : Nat) : Builtin.zeroCells (Value.int .u8 0).cells m = (zs m).toArray := by
  show Builtin.zeroCells #[Value.int .u8 0] m = _
  apply Array.ext
  · simp [Builtin.zeroCells, zs]
  · intro i h1 h2
    simp [Builtin.zeroCells, zs, Nat.mod_one]
theorem wrap_small (m : Nat) (h : m ≤ 1000000) : IntKind.i64.wrap (m : Int) = m := IntWalk.i64_in _ (by omega)
theorem zs_length (m : Nat) : (zs m).length = m := by simp [zs]
variable {w}
/-- The model's answer, the row grown or not. -/
theorem run_made (ty e t k : TypeId) (i : TypeInfo) (ht : P.underlying t = some (.slice e)) (hk : P.underlying k = some (.int .i64)) (hi : P.info? e = some i) (hz : i.zero = some (.int .u8 0)) (hsize : i.size = 1) (hby : i.bytes = 1)
    (base : Nat) (v : Value) (n : Nat) (xs : List Value) (hown : w.ownsRow base e 1 v n xs) (m : Nat) (hm : m ≤ 100000) (hn : n ≤ 100000) (hbase : base ≤ w.heap.size) :
    ∃ v' w', (Builtin.append_ #[t, k] ty #[v, .int .i64 (m : Int)]).run P w = .ok v' w' ∧ w'.ownsRow base e 1 v' (n + m) (xs ++ zs m) ∧ w.grownBy w' v.ownBlock ∧ (v'.ownBlock = v.ownBlock ∨ v'.ownBlock = some w.heap.size) := by
  have hw := wrap_small m (by omega)
  have hw0 : IntKind.i64.wrap 0 = 0 := wrap_small 0 (by omega)
  have hlen : (xs ++ zs m).length = (n + m) * 1 := by rw [List.length_append, hown.1, zs_length]; omega
  have hneg : ¬ ((m : Int) < 0) := by omega
  have h48 : ¬ (281474976710656 < (m : Int)) := by omega
  have h63' : ¬ (9223372036854775807 < (n : Int) + (m : Int)) := by omega
  have grown : ∀ (old : Nat), old < n + m → ∀ (row : Option Nat),
      (w.drew.alloc (.cells (xs.toArray ++ (zs m).toArray ++ Builtin.zeroCells (Value.int .u8 0).cells (grownCap w (n + m) old e - (n + m))) e)).ownsRow base e 1
        (.slice (some ⟨w.heap.size, 0, none⟩) (n + m) (grownCap w (n + m) old e)) (n + m) (xs ++ zs m) ∧
      w.grownBy (w.drew.alloc (.cells (xs.toArray ++ (zs m).toArray ++ Builtin.zeroCells (Value.int .u8 0).cells (grownCap w (n + m) old e - (n + m))) e)) row := by
    intro old ho row
    have hge := grownCap_ge w (n + m) old e
    have hcm : grownCap w (n + m) old e ≤ maxLen := grownCap_le_maxLen w (n + m) old e (by simp only [maxLen]; omega)
    refine ⟨⟨hlen, .inr ⟨w.heap.size, _, _, rfl, hbase, heap_alloc_new w.drew _, hge, hcm, ?_, ?_⟩⟩, ⟨rfl, rfl, rfl, by simp, fun k hk _ => Below.heap_alloc w.drew _ k hk⟩⟩
    · simp only [Array.size_append, List.size_toArray, size_zeroCells, hown.1, zs_length]
      show n * 1 + m + _ * 1 = _
      omega
    · simp only [Array.toList_append, List.append_assoc]
      rw [← List.append_assoc, ← hlen]
      exact List.take_left
  rcases hown.2 with ⟨rfl, rfl⟩ | ⟨g, cap, cur, rfl, hbg, hg, hnc, hcm, hcs, htake⟩
  · have hx : xs = [] := List.eq_nil_of_length_eq_zero (by simpa using hown.1)
    subst hx
    by_cases hm0 : m = 0
    · subst hm0
      refine ⟨.slice none 0 0, w, ?_, World.ownsRow_nil w base e 1, ⟨rfl, rfl, rfl, Nat.le_refl _, fun _ _ _ => rfl⟩, Or.inl rfl⟩
      simp [Builtin.append_, run_underlying ht, run_underlying hk, sizeOf, typeInfo, hi, Builtin.lenOf, Builtin.firstCells, hsize, hby, asInt, asIntOf, hw0, zs]
    · have hgr := grown 0 (by omega) (Value.ownBlock (.slice none 0 0))
      simp only [Nat.zero_add, List.nil_append, Array.empty_append] at hgr ⊢
      refine ⟨_, _, ?_, hgr.1, hgr.2, Or.inr rfl⟩
      have h48' : ¬ (281474976710656 < Builtin.nextslicecap m 0) := by rw [nextslicecap_zero (by omega)]; omega
      have h63'' : ¬ (9223372036854775807 < (m : Int)) := by omega
      simp [Builtin.append_, run_underlying ht, run_underlying hk, sizeOf, typeInfo, zeroValue, hi, hz, hw, hneg, h48, Builtin.lenOf, hm0, h63'', h48', Question.forced, run_firstCells_none, newRow, grownCap, hsize, hby, asInt, asIntOf, zeroCells_u8]
  · by_cases hroom : n + m ≤ cap
    · have hfit : n * 1 + (zs m).length ≤ cur.size := by rw [zs_length]; omega
      have h1 : ∀ u ∈ zs m, u.oneCell' = true := fun u hu => by rw [List.eq_of_mem_replicate hu]; rfl
      have hst := run_storeCells_at P g n e (zs m) 0 cur w hg (by rw [zs_length]; omega) h1
      simp only [Nat.add_zero] at hst
      refine ⟨.slice (some ⟨g, 0, none⟩) (n + m) cap, w.setRow g (cur.toList.take n ++ zs m ++ cur.toList.drop (n + (zs m).length)).toArray, ?_, ⟨hlen, .inr ⟨g, cap, _, rfl, hbg, setRow_heap w g cur _ e _ hg, hroom, hcm, ?_, ?_⟩⟩, ⟨rfl, rfl, rfl, by simp, fun k _ hk => setRow_other w g k _ (fun e => hk (by simp [Value.ownBlock, e]))⟩, Or.inl rfl⟩
      · by_cases hm0 : m = 0
        · subst hm0
          simp [zs] at hst
          simp [Builtin.append_, run_underlying ht, run_underlying hk, sizeOf, typeInfo, hi, hw, Builtin.lenOf, hroom, Addr.add_lit, hsize, hby, asInt, asIntOf, zs, hst, hw0]
          intro h; omega
        · simp [Builtin.append_, run_underlying ht, run_underlying hk, sizeOf, typeInfo, zeroValue, hi, hz, hw, hneg, h48, hm0, Builtin.lenOf, hroom, Addr.add_lit, hst, hsize, hby, asInt, asIntOf, zeroCells_u8]
      · simp only [List.size_toArray, List.length_append, List.length_take, List.length_drop, Array.length_toList]
        omega
      · have ht2 : cur.toList.take n = xs := by simpa using htake
        rw [ht2, ← hlen]
        exact List.take_left
    · have holds : ∀ j u, xs[j]? = some u → w.cell? ((⟨g, 0, none⟩ : Addr).add j) = some u := hown.cells (g := g) rfl
      have hgr := grown cap (by omega) (Value.ownBlock (.slice (some ⟨g, 0, none⟩) n cap))
      refine ⟨_, _, ?_, hgr.1, hgr.2, Or.inr rfl⟩
      have hfo := run_firstCells_some (P := P) w.drew 1 n ⟨g, 0, none⟩ n cap xs hown.1 (by simpa using holds)
      have h48' : ¬ (281474976710656 < Builtin.nextslicecap (n + m) cap) := by have := growslice_fits (need := n + m) (old := cap) (bytes := 1) (by omega) (by omega); omega
      have hm0 : m ≠ 0 := by omega
      simp [Builtin.append_, run_underlying ht, run_underlying hk, sizeOf, typeInfo, zeroValue, hi, hz, hw, hneg, h48, hm0, Builtin.lenOf, hroom, h63', h48', Question.forced, hfo, newRow, grownCap, hsize, hby, asInt, asIntOf, zeroCells_u8]
end
end Go.Proofs.Ytdkijmikafmgaaa.Dk
namespace Go.Proofs.Ytdkijmikafmgaaa.Dk
open Go.RowKit Go.Maps Go.Proofs.YtdkijmikafmgaaaW.PrintWords Go.Proofs.YtdkijmikafmgaaaW.PrintLast Go.Proofs.YtdkijmikafmgaaaW.PrintMore
set_option linter.unusedVariables false
set_option linter.unusedSimpArgs false

/-- No block of bytes has turned. -/
def U8 (w w' : World) : Prop := ∀ (g : Nat) (cells : Array Value), w.heap[g]? = some (.cells cells 5 (0, 0)) → w'.heap[g]? = some (.cells cells 5 (0, 0))
theorem U8.refl (w : World) : U8 w w := fun _ _ h => h
theorem U8.trans {w w1 w2 : World} (h : U8 w w1) (k : U8 w1 w2) : U8 w w2 := fun g c hg => k g c (h g c hg)
theorem U8.of_below {w w' : World} (h : Below w.heap.size w w') : U8 w w' := fun g c hg => (h.block g (Array.getElem?_eq_some_iff.1 hg).1).trans hg
theorem U8.alloc (w : World) (o : Obj) : U8 w (w.alloc o) := U8.of_below ((Below.refl _ _).alloc (Nat.le_refl _) o)
theorem U8.drew (w : World) : U8 w w.drew := fun _ _ h => h
theorem U8.of_only {S : Nat → Prop} {w w' : World} (h : Only S w w') (hs : ∀ g cells, w.heap[g]? = some (.cells cells 5 (0, 0)) → ¬ S g) : U8 w w' :=
  fun g c hg => (h.block g (Array.getElem?_eq_some_iff.1 hg).1 (hs g c hg)).trans hg
theorem U8.of_grown {α : Type} {d : Kd α} {e base : Nat} {ok : Nat → Prop} {w w' : World} {v : Value} {xs : List α} (hg : w.grownBy w' v.ownBlock) (h : d.R e w base ok v xs) (he : e ≠ 5) : U8 w w' :=
  fun g c hc => (hg.block g (Array.getElem?_eq_some_iff.1 hc).1 (fun hk => by
    obtain ⟨cells, h2⟩ := Kd.R_typed h g hk.symm
    rw [hc] at h2
    injection h2 with h2
    injection h2 with _ h2
    exact he h2.symm)).trans hc
/-- A row of bytes in a block of bytes from base on. -/
structure BRow (w : World) (base : Nat) (s : SV) (b : List Int) : Prop where
  n : s.n = b.length
  c : b.length ≤ s.c
  le : b.length ≤ 9223372036854775807
  at_ : ∃ g off cs, s.A = some ⟨g, off, none⟩ ∧ base ≤ g ∧ w.heap[g]? = some (.cells cs 5 (0, 0)) ∧ ∀ (j : Nat) x, b[j]? = some x → cs[off + j]? = some (.int .u8 x)
theorem BRow.u8 {w w' : World} {base : Nat} {s : SV} {b : List Int} (h : BRow w base s b) (hu : U8 w w') : BRow w' base s b := by
  obtain ⟨h1, h2, h3, g, off, cs, h4, h5, h6, h7⟩ := h
  exact ⟨h1, h2, h3, g, off, cs, h4, h5, hu _ _ h6, h7⟩
theorem BRow.lower {w : World} {base base' : Nat} {s : SV} {b : List Int} (h : BRow w base s b) (hb : base' ≤ base) : BRow w base' s b := by
  obtain ⟨h1, h2, h3, g, off, cs, h4, h5, h6, h7⟩ := h
  exact ⟨h1, h2, h3, g, off, cs, h4, by omega, h6, h7⟩
theorem BRow.reads {w : World} {base : Nat} {s : SV} {b : List Int} (h : BRow w base s b) : ReadB w s.A b.length b := by
  obtain ⟨h1, h2, h3, g, off, cs, h4, h5, h6, h7⟩ := h
  refine ⟨rfl, h3, fun _ => ⟨_, h4, fun j p hp => ⟨[.int .u8 p], rfl, rfl, fun i u hu => ?_⟩⟩⟩
  have hi : i = 0 := by rcases i with _ | i; rfl; simp at hu
  subst hi
  obtain rfl : Value.int .u8 p = u := by simpa using hu
  have h8 : (⟨g, off, none⟩ : Addr).add (j * (Kd.int .u8).sz + 0) = ⟨g, off + j, none⟩ := by
    show (⟨g, off, none⟩ : Addr).add (j * 1 + 0) = _
    rw [Nat.mul_one, Nat.add_zero, Addr.add_mid]
  rw [h8, cell_of_row _ _ _ _ _ _ h6]
  exact h7 j p hp
theorem BRow.sees {w : World} {base : Nat} {s : SV} {b : List Int} (h : BRow w base s b) {S : Nat → Prop} (hs : ∀ k, S k → k < base) : Sees S w s b :=
  ⟨h.n, h.c, fun w' ho => by
    obtain ⟨h1, h2, h3, g, off, cs, h4, h5, h6, h7⟩ := h
    exact BRow.reads (base := base) ⟨h1, h2, h3, g, off, cs, h4, h5, (ho.block g (Array.getElem?_eq_some_iff.1 h6).1 (fun hk => by have := hs g hk; omega)).trans h6, h7⟩⟩
theorem BRow.new (w : World) (l : List Int) (c : Nat) (hc : l.length ≤ c) (hl : l.length ≤ 9223372036854775807) : BRow (w.alloc (.cells (l.map (Value.int .u8)).toArray 5)) w.heap.size ⟨some ⟨w.heap.size, 0, none⟩, l.length, c⟩ l :=
  ⟨rfl, hc, hl, w.heap.size, 0, _, rfl, Nat.le_refl _, heap_alloc_new w _, fun j x hx => by simp [hx]⟩
theorem BRow.of_own {w : World} {base n c : Nat} {ok : Nat → Prop} {A : Option Addr} {l : List Int} (h : OwnB w base ok (.slice A n c) l) (hn : 0 < l.length) : BRow w base ⟨A, n, c⟩ l := by
  have h1 := own_reads_ h
  have ho := Kd.own_of_R h
  obtain ⟨g, cap, e, h3, h4⟩ := ho.form (by omega)
  injection e with e1 e2 e3
  subst e1 e3
  obtain ⟨cells, hc⟩ := own_typed ho g (by simp [Value.ownBlock])
  refine ⟨h1.1, by show l.length ≤ c; omega, h1.2.2.2.1, g, 0, cells, rfl, own_base ho g (by simp [Value.ownBlock]), hc, fun j x hx => ?_⟩
  have := own_cell h j x hx
  rw [cell_of_row _ _ _ _ _ _ hc] at this
  rw [Nat.zero_add]; exact this
/-- A cut. -/
theorem BRow.cut {w : World} {base : Nat} {g n c : Nat} {b : List Int} (h : BRow w base ⟨some ⟨g, 0, none⟩, n, c⟩ b) (lo hi : Nat) (h1 : lo ≤ hi) (h2 : hi ≤ b.length) : BRow w base ⟨some ⟨g, lo, none⟩, hi - lo, c - lo⟩ ((b.take hi).drop lo) := by
  obtain ⟨q1, q2, q3, g', off, cs, h4, h5, h6, h7⟩ := h
  injection h4 with h4
  injection h4 with e1 e2
  subst e1 e2
  have q2 : b.length ≤ c := q2
  refine ⟨by show hi - lo = _; simp; omega, by show _ ≤ c - lo; simp; omega, by simp; omega, g, lo, cs, rfl, h5, h6, fun j x hx => ?_⟩
  rw [List.getElem?_drop, List.getElem?_take] at hx
  split at hx
  · have := h7 (lo + j) x hx
    rwa [Nat.zero_add] at this
  · cases hx
theorem BRow.cell {w : World} {base : Nat} {g off n c : Nat} {b : List Int} (h : BRow w base ⟨some ⟨g, off, none⟩, n, c⟩ b) {j : Nat} {x : Int} (hx : b[j]? = some x) : w.cell? ⟨g, off + j, none⟩ = some (.int .u8 x) := by
  obtain ⟨q1, q2, q3, g', off', cs, h4, h5, h6, h7⟩ := h
  injection h4 with h4
  injection h4 with e1 e2
  subst e1 e2
  rw [cell_of_row _ _ _ _ _ _ h6]
  exact h7 j x hx
/-- A row of slices whose elements from the second on are rows of bytes. -/
def BRows (w : World) (base : Nat) (vs : List SV) (bs : List (List Int)) : Prop := vs.length = bs.length ∧ ∀ (i : Nat) s b, vs[i]? = some s → bs[i]? = some b → BRow w base s b
theorem BRows.u8 {w w' : World} {base : Nat} {vs : List SV} {bs : List (List Int)} (h : BRows w base vs bs) (hu : U8 w w') : BRows w' base vs bs := ⟨h.1, fun i s b h1 h2 => (h.2 i s b h1 h2).u8 hu⟩
theorem BRows.snoc {w : World} {base : Nat} {vs : List SV} {bs : List (List Int)} (h : BRows w base vs bs) {s : SV} {b : List Int} (hb : BRow w base s b) : BRows w base (vs ++ [s]) (bs ++ [b]) := by
  refine ⟨by simp [h.1], fun i s' b' h1 h2 => ?_⟩
  rcases Nat.lt_trichotomy i vs.length with hi | hi | hi
  · rw [List.getElem?_append_left hi] at h1
    rw [List.getElem?_append_left (by rw [← h.1]; exact hi)] at h2
    exact h.2 i s' b' h1 h2
  · rw [List.getElem?_append_right (by omega), hi, Nat.sub_self] at h1
    rw [List.getElem?_append_right (by rw [← h.1]; omega), hi, h.1, Nat.sub_self] at h2
    obtain rfl := Option.some.inj h1
    obtain rfl := Option.some.inj h2
    exact hb
  · rw [List.getElem?_eq_none (by simp; omega)] at h1; cases h1
theorem BRows.cons {w : World} {base : Nat} {vs : List SV} {bs : List (List Int)} (h : BRows w base vs bs) {s : SV} {b : List Int} (hb : BRow w base s b) : BRows w base (s :: vs) (b :: bs) := by
  refine ⟨by simp [h.1], fun i s' b' h1 h2 => ?_⟩
  cases i with
  | zero => obtain rfl := Option.some.inj h1; obtain rfl := Option.some.inj h2; exact hb
  | succ i => exact h.2 i s' b' h1 h2
theorem Rws.of_rows {w : World} {base b0 : Nat} {ok : Nat → Prop} {A : Option Addr} {n c : Nat} {vs : List SV} {bs : List (List Int)} (h : Kd.R slK 37 w b0 ok (.slice A n c) vs) (hb : BRows w base vs bs) {S : Nat → Prop} (h0 : ∀ k, ok k → ¬ S k) (h1 : ∀ k, S k → k < base) : Rws S w A bs :=
  Rws.of_own h h0 hb.1 (fun j v x hv hx => (hb.2 j v x hv hx).sees h1)
/-- The rows from the second on. -/
theorem Rws.tail {w : World} {base b0 : Nat} {ok : Nat → Prop} {g n c : Nat} {s0 : SV} {vs : List SV} {bs : List (List Int)} (h : Kd.R slK 37 w b0 ok (.slice (some ⟨g, 0, none⟩) n c) (s0 :: vs)) (hb : BRows w base vs bs) (hp : 0 < vs.length) {S : Nat → Prop} (h0 : ∀ k, ok k → ¬ S k) (h1 : ∀ k, S k → k < base) : Rws S w (some ⟨g, 1, none⟩) bs :=
  ⟨vs, hb.1, fun w' ho => by
    obtain ⟨A', c', e, h2, h3⟩ := Kd.R_reads (own_only h ho h0)
    injection e with e1 e2 e3
    subst e1 e3
    have h4 := Kd.C_drop (m := 1) h3 (by simp) h2
    have hc : c ≠ 1 := by simp at h2; omega
    rw [if_neg hc] at h4
    have e5 : (some (⟨g, 0, none⟩ : Addr)).map (·.add (1 * slK.sz)) = some ⟨g, 1, none⟩ := rfl
    rw [e5] at h4
    exact h4, fun j v x hv hx => (hb.2 j v x hv hx).sees h1⟩
theorem add_zero_addr (g k : Nat) : (⟨g, 0, none⟩ : Addr).add k = ⟨g, k, none⟩ := by rw [Addr.add_mid, Nat.zero_add]
theorem info_sl : (Try.prog.info? 37).map (fun i => (i.zero, i.size, i.bytes)) = some (some (.slice none 0 0), 1, 24) := by kernel_rfl
section
variable {P : Program} {w : World} {ops : Array Oper} {rest : List Oper} {o : Oper} {a : Act} {Q : Exit → Act → World → Prop}
theorem wpList_made (hg : o.guard = none) (s x : Operand) (t k e : TypeId) (ho : o.op = .call { callee := .builtin .append, args := #[s, x], argTypes := #[t, k] })
    (ht : P.underlying t = some (.slice e)) (hk : P.underlying k = some (.int .i64)) (hinfo : (P.info? e).map (fun i => (i.zero, i.size, i.bytes)) = some (some (.int .u8 0), 1, 1))
    (base : Nat) (ok : Nat → Prop) (v : Value) (l : List Int) (hs : a.eval s = v) (HO : Kd.R (Kd.int .u8) e w base ok v l) (m : Nat) (hx : a.eval x = .int .i64 (m : Int)) (hm : m ≤ 100000) (hn : l.length ≤ 100000) (hbase : base ≤ w.heap.size)
    (h : ∀ v1 w1, Kd.R (Kd.int .u8) e w1 base (fun _ => True) v1 (l ++ List.replicate m 0) → w.grownBy w1 v.ownBlock → wpList P ops Q rest (a.put o.dst v1) w1) : wpList P ops Q (o :: rest) a w := by
  obtain ⟨i0, hi, hzz⟩ := Option.map_eq_some_iff.1 hinfo
  simp only [Prod.mk.injEq] at hzz
  obtain ⟨hz0, hz1, hz2⟩ := hzz
  have hown := Kd.own_of_R HO
  obtain ⟨v1, w1, hr, h1, h2, h3⟩ := run_made (P := P) (w := w) o.type e t k i0 ht hk hi hz0 hz1 hz2 base v l.length (encs (Value.int .u8) l) hown m hm hn hbase
  refine wpList_plain hg fun K hK => ?_
  unfold Oper.wp execOp
  simp only [ho, resolve, invoke, builtin, Sem.run_bind, Sem.run_pure, Result.andThen_ok, List.map_toArray, List.map_cons, List.map_nil, hs, hx, hr]
  refine hK _ _ (h v1 w1 ?_ h2)
  refine Kd.R_of_own (h1 := fun _ => rfl) ?_ (fun _ _ => trivial)
  have e2 : encs (Value.int .u8) (l ++ List.replicate m 0) = encs (Value.int .u8) l ++ zs m := by simp [encs, zs]
  rw [e2, List.length_append, List.length_replicate]
  exact h1
end
section
variable {P : Program} {w : World} {ops : Array Oper} {rest : List Oper} {o : Oper} {a : Act} {Q : Exit → Act → World → Prop}
theorem C_cells {A : Option Addr} {l : List Int} {n : Nat} (h : ReadB w A n l) {ad : Addr} (hA : A = some ad) : ∀ j v, (l.map (Value.int .u8))[j]? = some v → w.cell? (ad.add j) = some v := by
  intro j v hv
  rw [List.getElem?_map] at hv
  cases hx : l[j]? with
  | none => rw [hx] at hv; cases hv
  | some x =>
    rw [hx] at hv
    have hv : Value.int .u8 x = v := Option.some.inj hv
    have hj : j < l.length := (List.getElem?_eq_some_iff.1 hx).1
    obtain ⟨ad2, e2, hc⟩ := h.2.2 (by have := h.1; omega)
    rw [hA] at e2
    injection e2 with e2
    subst e2
    obtain ⟨c, _, h2, h3⟩ := hc j x hx
    have := h3 0 (.int .u8 x) (by rw [show c = [.int .u8 x] from h2]; rfl)
    rw [← hv]
    simpa [Kd.int, Kd.scalar] using this
/-- 'append' to a row that has no room: a new row. -/
theorem wpList_grow (hgd : o.guard = none) (s x : Operand) (t e : TypeId) (ho : o.op = .call { callee := .builtin .append, args := #[s, x], argTypes := #[t, t] })
    (ht : P.underlying t = some (.slice e)) (hinfo : (P.info? e).map (fun i => (i.zero, i.size, i.bytes)) = some (some (.int .u8 0), 1, 1))
    (b : Addr) (n c : Nat) (xs : List Int) (hs : a.eval s = .slice (some b) n c) (ad : Addr) (m cx : Nat) (ys : List Int) (hx : a.eval x = .slice (some ad) m cx)
    (hxs : ReadB w (some b) n xs) (hys : ReadB w (some ad) m ys) (hc : c < n + m) (hsm : n + m ≤ 100000)
    (h : ∀ v1 w1, Kd.R (Kd.int .u8) e w1 w.heap.size (fun k => w.heap.size ≤ k) v1 (xs ++ ys) → Below w.heap.size w w1 → wpList P ops Q rest (a.put o.dst v1) w1) : wpList P ops Q (o :: rest) a w := by
  obtain ⟨i, hi, hzz⟩ := Option.map_eq_some_iff.1 hinfo
  simp only [Prod.mk.injEq] at hzz
  obtain ⟨hz, hsize, hby⟩ := hzz
  have hn : xs.length = n := hxs.1
  have hm : ys.length = m := hys.1
  have hr := run_append_grow (P := P) w t o.type e i (.int .u8 0) ht hi hz b n c (xs.map (Value.int .u8)) (by rw [List.length_map, hn, hsize]; omega) (C_cells hxs rfl) ad m cx (ys.map (Value.int .u8)) (by rw [List.length_map, hm, hsize]; omega) (C_cells hys rfl) hc (by omega) (by
    rw [hby]
    have := growslice_fits (need := n + m) (old := c) (bytes := 1) (by omega) (by omega); omega)
  refine wpList_plain hgd fun K hK => ?_
  unfold Oper.wp execOp
  simp only [ho, resolve, invoke, builtin, Sem.run_bind, Sem.run_pure, Result.andThen_ok, List.map_toArray, List.map_cons, List.map_nil, hs, hx, hr]
  refine hK _ _ (h _ _ ?_ ?_)
  · have hge := grownCap_ge w (n + m) c e
    have hcm : grownCap w (n + m) c e ≤ maxLen := grownCap_le_maxLen w (n + m) c e (by simp only [maxLen]; omega)
    have hlen : (xs ++ ys).length = n + m := by rw [List.length_append, hn, hm]
    refine Kd.R_of_own (h1 := fun _ => rfl) ?_ (fun k hk => by simp [Value.ownBlock] at hk; omega)
    have e2 : encs (Value.int .u8) (xs ++ ys) = xs.map (Value.int .u8) ++ ys.map (Value.int .u8) := by simp [encs]
    rw [e2, hlen]
    refine ⟨by simp [hn, hm], .inr ⟨w.heap.size, _, _, rfl, Nat.le_refl _, heap_alloc_new w.drew _, hge, hcm, ?_, ?_⟩⟩
    · simp only [Array.size_append, List.size_toArray, List.length_map, size_zeroCells, hn, hm]
      show n + m + _ * 1 = _ * 1
      omega
    · simp only [Array.toList_append, List.append_assoc]
      rw [← List.append_assoc]
      have e3 : (n + m) * 1 = (xs.map (Value.int .u8) ++ ys.map (Value.int .u8)).length := by simp [hn, hm]
      rw [e3]
      exact List.take_left
  · exact ((Below.refl _ _).drew).alloc (Nat.le_refl _) _
end
/-- '[]byte("..")' of a constant of two bytes. -/
theorem const_two (W : World) (x y : Int) : (convert 37 37 (.slice (some ⟨W.heap.size, 0, none⟩) 2 2)).run Try.prog (W.alloc (.cells #[.int .u8 x, .int .u8 y] 5)) = .ok (.slice (some ⟨W.heap.size, 0, none⟩) 2 2) (W.alloc (.cells #[.int .u8 x, .int .u8 y] 5 (2, 3))) :=
  Lib.run_convert_bytes_const W 37 5 #[.int .u8 x, .int .u8 y] 2 2 Try.underlying37 Try.underlying5
theorem reads_marked (W : World) (x y : Int) (fr : Nat × Nat) : ReadB (W.alloc (.cells #[.int .u8 x, .int .u8 y] 5 fr)) (some ⟨W.heap.size, 0, none⟩) 2 [x, y] :=
  BytesAt.reads (l := [x, y]) ⟨5, fr, heap_alloc_new W _, by simp⟩
section
variable {w : World} {base g n c : Nat} {ok : Nat → Prop} {s0 : SV} {vs : List SV}
theorem first_cell (h : Kd.R slK 37 w base ok (.slice (some ⟨g, 0, none⟩) n c) (s0 :: vs)) : w.cell? ⟨g, 0, none⟩ = some s0.v ∧ w.frozen? ⟨g, 0, none⟩ = false ∧ ∃ cells, w.heap[g]? = some (.cells cells 37 (0, 0)) := by
  have ho := Kd.own_of_R h
  obtain ⟨cells, hc⟩ := own_typed ho g (by simp [Value.ownBlock])
  refine ⟨?_, frozen_of_row _ _ _ _ _ hc, cells, hc⟩
  have := ho.cells (g := g) rfl 0 s0.v (by simp [encs])
  rwa [add_zero_addr] at this
theorem first_put (h : Kd.R slK 37 w base ok (.slice (some ⟨g, 0, none⟩) n c) (s0 :: vs)) (s : SV) : Kd.R slK 37 (w.setCell ⟨g, 0, none⟩ s.v) base ok (.slice (some ⟨g, 0, none⟩) n c) (s :: vs) := Kd.R_putn h (0 : Int) s
theorem first_u8 (h : Kd.R slK 37 w base ok (.slice (some ⟨g, 0, none⟩) n c) (s0 :: vs)) (v : Value) : U8 w (w.setCell ⟨g, 0, none⟩ v) := by
  obtain ⟨_, _, cells, hc⟩ := first_cell h
  refine U8.of_only (Only.setCell (S := fun k => k = g) w rfl v) (fun k cs hk e => ?_)
  subst e
  rw [hc] at hk
  injection hk with hk
  injection hk with _ hk
  exact absurd hk (by decide)
end
end Go.Proofs.Ytdkijmikafmgaaa.Dk
namespace Go.Proofs.Ytdkijmikafmgaaa.Dk
open Go.RowKit Go.Maps Go.Proofs.YtdkijmikafmgaaaW.PrintWords Go.Proofs.YtdkijmikafmgaaaW.PrintLast Go.Proofs.YtdkijmikafmgaaaW.PrintMore
set_option linter.unusedVariables false
set_option linter.unusedSimpArgs false

def pairsOf (l : List Ch) (j : Nat) : List Int := (l.take j).flatMap fun c => two c.1
theorem pairsOf_step {l : List Ch} {j : Nat} {x : Ch} (hx : l[j]? = some x) : pairsOf l (j + 1) = pairsOf l j ++ two x.1 := by
  unfold pairsOf
  rw [List.take_add_one, hx]
  simp
theorem pairsOf_length (l : List Ch) {j : Nat} (hj : j ≤ l.length) : (pairsOf l j).length = 2 * j := by
  induction j with
  | zero => rfl
  | succ j ih => rw [pairsOf_step (List.getElem?_eq_getElem hj), List.length_append, ih (by omega)]; simp [two]; omega
theorem placesOf_eq (l : List Ch) : pairsOf l l.length ++ List.replicate (192 - 2 * l.length) 0 = placesOf l := by
  unfold placesOf
  have h := pairsOf_length l (Nat.le_refl _)
  unfold pairsOf at h ⊢
  rw [List.take_length] at h ⊢
  show _ = _ ++ _
  rw [h]
theorem placesOf_length (l : List Ch) (h : l.length ≤ 96) : (placesOf l).length = 192 := by
  rw [← placesOf_eq, List.length_append, pairsOf_length l (Nat.le_refl _), List.length_replicate]; omega
/-- The images, one behind the other. -/
def threeOf (l : List Ch) : List (List Int) := [(placesOf l).take 64, ((placesOf l).take 128).drop 64, ((placesOf l).take 192).drop 128]
theorem imagesOf_eq (l : List Ch) : imagesOf l = threeOf l ++ l.map fun c => pad c.2 := rfl
theorem reads_two (W : World) (a b : Int) (g : Nat) (hg : g = W.heap.size) : ReadB (W.alloc (.cells #[.int .u8 a, .int .u8 b] 5)) (some ⟨g, 0, none⟩) 2 [a, b] := by
  subst hg
  exact (bytes_new W [a, b] 5 (by simp)).reads
set_option maxHeartbeats 4000000 in
set_option maxRecDepth 1000000 in
theorem job_any {S : Nat → Prop} {w : World} (A : Option Addr) (c : Nat) (l : List Ch) (hl : Chs S w A l) (hlen : l.length ≤ 96) (hb : ∀ x ∈ l, 0 ≤ x.1 ∧ x.1 ≤ 4096 ∧ x.2.length ≤ 64) :
    Calls Try.prog 52 #[.slice A l.length c] w fun e w' => ∃ g c', e = .returned (.slice (some ⟨g, 0, none⟩) (4 + l.length) c') ∧ 4 + l.length ≤ c' ∧ (∀ S', (∀ k, S' k → k < w.heap.size) → Rws S' w' (some ⟨g, 0, none⟩) (jobOf l)) ∧ Below w.heap.size w w' := by
  have HC := Fact.mk hl
  have HB := Fact.mk hb
  clear hl hb
  go_enter Try.func52, Try.ntmps52
  go_wp2_with fail
  have hn2 : two (l.length : Int) = [(l.length : Int) / 256, (l.length : Int)] := by unfold two; congr 1; omega; congr 1; omega
  have F0 : Fact (Below w.heap.size w ((w.alloc (.cells #[.slice none 0 0] 37)).alloc (.cells #[.int .u8 ((l.length : Int) / 256), .int .u8 (l.length : Int)] 5))) := ⟨((Below.refl _ _).alloc (Nat.le_refl _) _).alloc (by simp) _⟩
  have F1 : Fact (((w.alloc (.cells #[.slice none 0 0] 37)).alloc (.cells #[.int .u8 ((l.length : Int) / 256), .int .u8 (l.length : Int)] 5)).heap.size = w.heap.size + 2) := ⟨by simp⟩
  have F2 : Fact (Kd.R slK 37 ((w.alloc (.cells #[.slice none 0 0] 37)).alloc (.cells #[.int .u8 ((l.length : Int) / 256), .int .u8 (l.length : Int)] 5)) w.heap.size (fun k => w.heap.size ≤ k) (.slice (some ⟨w.heap.size, 0, none⟩) 1 1) [⟨none, 0, 0⟩]) :=
    ⟨Kd.R_below ⟨fun k hk => by simp [Value.ownBlock] at hk; omega, OwnRow.lit w w.heap.size (Reps.one (p := (⟨none, 0, 0⟩ : SV)) (v := .slice none 0 0) rfl (Reps.none _ _)) (Nat.le_refl _) (by simp)⟩ (below_alloc (Below.refl _ _) _)⟩
  have F3 : Fact (BRow ((w.alloc (.cells #[.slice none 0 0] 37)).alloc (.cells #[.int .u8 ((l.length : Int) / 256), .int .u8 (l.length : Int)] 5)) w.heap.size ⟨some ⟨w.heap.size + 1, 0, none⟩, 2, 2⟩ (two (l.length : Int))) := ⟨by
    have := BRow.new (w.alloc (.cells #[.slice none 0 0] 37)) (two (l.length : Int)) 2 (by simp [two]) (by simp [two])
    rw [hn2] at this ⊢
    have e : (w.alloc (.cells #[.slice none 0 0] 37)).heap.size = w.heap.size + 1 := by simp
    rw [e] at this
    exact this.lower (by omega)⟩
  clear hn2
  generalize ((w.alloc (.cells #[.slice none 0 0] 37)).alloc (.cells #[.int .u8 ((l.length : Int) / 256), .int .u8 (l.length : Int)] 5)) = w2 at *
  have I0 : Fact (Kd.R (Kd.int .u8) 5 w2 w2.heap.size (fun k => w2.heap.size ≤ k) (.slice none 0 0) (pairsOf l 0)) := ⟨by unfold pairsOf; rw [List.take_zero]; exact Kd.R_nil _ _ _ _ _⟩
  go_loopw [3, 23] (fun v3 v23 wr => ∃ j : Nat, v23 = .int .i64 (j : Int) ∧ j ≤ l.length ∧ Fact (Kd.R (Kd.int .u8) 5 wr w2.heap.size (fun k => w2.heap.size ≤ k) v3 (pairsOf l j)) ∧ Fact (Below w2.heap.size w2 wr)) (fun _ v _ => l.length - (intOf v).toNat)
  case atStart => exact ⟨0, rfl, Nat.zero_le _, I0, ⟨Below.refl _ _⟩⟩
  case round =>
    obtain ⟨j, rfl, hj, R1, R2⟩ := hrel
    clear I0
    obtain ⟨A3, c3, rfl⟩ := Kd.R_slice R1.out
    by_cases hlt : j < l.length
    · have hlt2 : (j : Int) < (l.length : Int) := by omega
      have hx : l[j]? = some l[j] := List.getElem?_eq_getElem hlt
      have HX := Fact.mk hx
      obtain ⟨hb1, hb2, hb3⟩ := HB.out l[j] (List.getElem_mem hlt)
      obtain ⟨ad, As, cs, hA, hs, hc⟩ := HC.out.at_ hx
      subst hA
      obtain ⟨c0, c1⟩ := hc wr (Only.of_below (next_below F0.out (Only.of_below R2.out (fun _ => False)) (fun k h => h.elim)) S)
      have hbase : w2.heap.size ≤ wr.heap.size := R2.out.size
      clear hs hc hx
      have hpl : (pairsOf l j).length = 2 * j := pairsOf_length l (by omega)
      generalize l[j] = x at *
      have hx1 : two x.1 = [x.1 / 256, x.1 % 256] := by unfold two; congr 1; omega
      go_wp2_with ((with_reducible refine gate_builtin (b := .append) (xs := #[.tmp 27, .tmp 35]) rfl ?_); at_builtin; refine Kd.R_append_rows (Kd.int .u8) (w0 := w2) w2.heap.size rfl (.tmp 27) (.tmp 35) 37 5 (.int .u8 0) 1 rfl Try.underlying37 info_u8 rfl (by decide) (by omega) (.slice A3 (pairsOf l j).length c3) (pairsOf l j) (two x.1) (some ⟨wr.heap.size + 1, 0, none⟩) 2 2 (fun k => w2.heap.size ≤ k) (fun _ => False) rfl rfl ?aO ?aR (fun _ _ h => h) (fun _ h => h.elim) ?aF ?aB ?aS ?aL ?_; (case aR => rw [hx1]; exact reads_two _ _ _ _ (by simp)); (case aO => exact Kd.R_alloc (Kd.R_alloc R1.out _) _); (case aF => intro k hk; simp at hk; omega); (case aB => exact (R2.out.alloc hbase _).alloc (by simp; omega) _); (case aS => simp; omega); (case aL => omega); intro v1 w1 ho hb hg hat; have HO := Fact.mk ho; have HBw := Fact.mk hb; clear ho hb hg hat)
      exact ⟨⟨j + 1, by go_num, by omega, ⟨by rw [pairsOf_step HX.out]; exact HO.out⟩, HBw⟩, by simp [intOf]; omega⟩
    · have he : j = l.length := by omega
      subst he
      have hlt2 : ¬ ((l.length : Int) < (l.length : Int)) := by omega
      have hpl : (pairsOf l l.length).length = 2 * l.length := pairsOf_length l (Nat.le_refl _)
      have hbase : w2.heap.size ≤ wr.heap.size := R2.out.size
      go_wp2_with ((with_reducible refine gate_builtin (b := .append) (xs := #[.tmp 38, .tmp 41]) rfl ?_); at_builtin; refine wpList_made rfl (.tmp 38) (.tmp 41) 37 3 5 rfl Try.underlying37 int_t info_u8 w2.heap.size _ _ (pairsOf l l.length) rfl R1.out (192 - 2 * l.length) ?aX (by omega) (by omega) hbase ?_; (case aX => show Value.int .i64 _ = _; congr 1; omega); intro v3 w3 ho hg; have HO := Fact.mk ho; have HG := Fact.mk hg; clear ho hg)
      have HO2 := HO.out
      rw [placesOf_eq] at HO2
      have B3 : Fact (Below w2.heap.size w2 w3) := ⟨R2.out.grown HG.out hbase (own_base (Kd.own_of_R R1.out))⟩
      have hp := placesOf_length l hlen
      obtain ⟨A3', c3', rfl⟩ := Kd.R_slice HO2
      obtain ⟨g3, c3'', e3, _, _⟩ := (Kd.own_of_R HO2).form (by omega)
      injection e3 with e3 _ e4
      subst e3 e4
      have G3 := Fact.mk ((BRow.of_own HO2 (by omega)).lower (base' := w.heap.size) (by have := F1.out; omega))
      have hc3 := (own_reads_ HO2).2.1
      rw [hp] at G3 hc3 ⊢
      have N3 := Fact.mk (F3.out.u8 (U8.of_below B3.out))
      have O3 := Fact.mk (Kd.R_below F2.out B3.out)
      have B3w := Fact.mk (F0.out.trans (B3.out.mono (by have := F1.out; omega)))
      clear HO HO2 HG B3 R1 R2 F0 F2 F3 F1 hbase
      clear hpl
      clear wr
      go_wp2_with fail
      have I2 : Fact (∃ vs, Kd.R slK 37 w3 w.heap.size (fun k => w.heap.size ≤ k) (.slice (some ⟨w.heap.size, 0, none⟩) 1 1) (⟨none, 0, 0⟩ :: vs) ∧ BRows w3 w.heap.size vs ((threeOf l).take 0)) := ⟨[], O3.out, rfl, fun i s b h => by simp at h⟩
      clear O3
      go_loopw [4, 43] (fun v4 v43 wr => ∃ j : Nat, v43 = .int .i64 (j : Int) ∧ j ≤ 3 ∧ Fact (∃ vs, Kd.R slK 37 wr w.heap.size (fun k => w.heap.size ≤ k) v4 (⟨none, 0, 0⟩ :: vs) ∧ BRows wr w.heap.size vs ((threeOf l).take j)) ∧ Fact (U8 w3 wr) ∧ Fact (Below w.heap.size w wr)) (fun _ v _ => 3 - (intOf v).toNat)
      case atStart => exact ⟨0, rfl, Nat.zero_le _, I2, ⟨U8.refl _⟩, B3w⟩
      case round =>
        obtain ⟨j, rfl, hj, R1, R2, R3⟩ := hrel
        clear I2 B3w
        obtain ⟨vs, hV, hR⟩ := R1.out
        obtain ⟨A4, c4, rfl⟩ := Kd.R_slice hV
        have HV := Fact.mk hV
        have HVr := Fact.mk hR
        have hvl : vs.length = j := by have := hR.1; rw [this, List.length_take]; show min j 3 = j; omega
        clear R1 hV hR
        have hbase : w.heap.size ≤ wr.heap.size := R3.out.size
        have hj4 : j = 0 ∨ j = 1 ∨ j = 2 ∨ j = 3 := by omega
        rcases hj4 with rfl | rfl | rfl | rfl
        · go_wp2_with ((with_reducible refine gate_builtin (b := .append) (xs := #[.tmp 46, .tmp 54]) rfl ?_); at_builtin; refine Kd.R_append slK (w0 := w) w.heap.size rfl (.tmp 46) (.tmp 54) 72 37 (.slice none 0 0) 24 rfl Try.underlying72 info_sl rfl (by decide) (by decide) (.slice A4 (⟨none, 0, 0⟩ :: vs).length c4) (⟨none, 0, 0⟩ :: vs) ⟨some ⟨g3, 0, none⟩, 64, c3' - 0⟩ [.slice (some ⟨g3, 0, none⟩) 64 (c3' - 0)] (fun k => w.heap.size ≤ k) (fun _ => False) rfl rfl rfl (fun _ h => h.elim) ?aF ?aO ?aB ?aS ?aL ?_; (case aF => intro k hk; omega); (case aO => exact HV.out); (case aB => exact R3.out); (case aS => exact hbase); (case aL => rw [List.length_cons, hvl]; omega); intro v1 w1 ho hb hg hat; have HO := Fact.mk ho; have HBw := Fact.mk hb; have HU := Fact.mk (U8.of_grown hg HV.out (by decide)); clear ho hb hg hat)
          exact ⟨⟨1, by rfl, by omega, ⟨vs ++ [⟨some ⟨g3, 0, none⟩, 64, c3' - 0⟩], by exact HO.out, by rw [show (threeOf l).take 1 = (threeOf l).take 0 ++ [_] from rfl]; exact (HVr.out.u8 HU.out).snoc (((G3.out.u8 R2.out).u8 HU.out).cut 0 64 (by omega) (by rw [hp]; omega))⟩, ⟨R2.out.trans HU.out⟩, HBw⟩, by simp [intOf]⟩
        · go_wp2_with ((with_reducible refine gate_builtin (b := .append) (xs := #[.tmp 46, .tmp 54]) rfl ?_); at_builtin; refine Kd.R_append slK (w0 := w) w.heap.size rfl (.tmp 46) (.tmp 54) 72 37 (.slice none 0 0) 24 rfl Try.underlying72 info_sl rfl (by decide) (by decide) (.slice A4 (⟨none, 0, 0⟩ :: vs).length c4) (⟨none, 0, 0⟩ :: vs) ⟨some ⟨g3, 64, none⟩, 64, c3' - 64⟩ [.slice (some ⟨g3, 64, none⟩) 64 (c3' - 64)] (fun k => w.heap.size ≤ k) (fun _ => False) rfl rfl rfl (fun _ h => h.elim) ?aF ?aO ?aB ?aS ?aL ?_; (case aF => intro k hk; omega); (case aO => exact HV.out); (case aB => exact R3.out); (case aS => exact hbase); (case aL => rw [List.length_cons, hvl]; omega); intro v1 w1 ho hb hg hat; have HO := Fact.mk ho; have HBw := Fact.mk hb; have HU := Fact.mk (U8.of_grown hg HV.out (by decide)); clear ho hb hg hat)
          exact ⟨⟨2, by rfl, by omega, ⟨vs ++ [⟨some ⟨g3, 64, none⟩, 64, c3' - 64⟩], by exact HO.out, by rw [show (threeOf l).take 2 = (threeOf l).take 1 ++ [_] from rfl]; exact (HVr.out.u8 HU.out).snoc (((G3.out.u8 R2.out).u8 HU.out).cut 64 128 (by omega) (by rw [hp]; omega))⟩, ⟨R2.out.trans HU.out⟩, HBw⟩, by simp [intOf]⟩
        · go_wp2_with ((with_reducible refine gate_builtin (b := .append) (xs := #[.tmp 46, .tmp 54]) rfl ?_); at_builtin; refine Kd.R_append slK (w0 := w) w.heap.size rfl (.tmp 46) (.tmp 54) 72 37 (.slice none 0 0) 24 rfl Try.underlying72 info_sl rfl (by decide) (by decide) (.slice A4 (⟨none, 0, 0⟩ :: vs).length c4) (⟨none, 0, 0⟩ :: vs) ⟨some ⟨g3, 128, none⟩, 64, c3' - 128⟩ [.slice (some ⟨g3, 128, none⟩) 64 (c3' - 128)] (fun k => w.heap.size ≤ k) (fun _ => False) rfl rfl rfl (fun _ h => h.elim) ?aF ?aO ?aB ?aS ?aL ?_; (case aF => intro k hk; omega); (case aO => exact HV.out); (case aB => exact R3.out); (case aS => exact hbase); (case aL => rw [List.length_cons, hvl]; omega); intro v1 w1 ho hb hg hat; have HO := Fact.mk ho; have HBw := Fact.mk hb; have HU := Fact.mk (U8.of_grown hg HV.out (by decide)); clear ho hb hg hat)
          exact ⟨⟨3, by rfl, by omega, ⟨vs ++ [⟨some ⟨g3, 128, none⟩, 64, c3' - 128⟩], by exact HO.out, by rw [show (threeOf l).take 3 = (threeOf l).take 2 ++ [_] from rfl]; exact (HVr.out.u8 HU.out).snoc (((G3.out.u8 R2.out).u8 HU.out).cut 128 192 (by omega) (by rw [hp]; omega))⟩, ⟨R2.out.trans HU.out⟩, HBw⟩, by simp [intOf]⟩
        · have I3 : Fact (∃ vs' : List SV, Kd.R slK 37 wr w.heap.size (fun k => w.heap.size ≤ k) (.slice A4 (⟨none, 0, 0⟩ :: vs : List SV).length c4) (⟨none, 0, 0⟩ :: vs') ∧ BRows wr w.heap.size vs' (threeOf l ++ (l.take 0).map fun c => pad c.2)) := ⟨vs, HV.out, by rw [List.take_zero, List.map_nil, List.append_nil]; exact HVr.out⟩
          have N4 := Fact.mk (N3.out.u8 R2.out)
          clear HV HVr N3
          go_wp2_with fail
          clear R2 hbase G3
          go_loopw [4, 59] (fun v4 v59 wq => ∃ j : Nat, v59 = .int .i64 (j : Int) ∧ j ≤ l.length ∧ Fact (∃ vs : List SV, Kd.R slK 37 wq w.heap.size (fun k => w.heap.size ≤ k) v4 (⟨none, 0, 0⟩ :: vs) ∧ BRows wq w.heap.size vs (threeOf l ++ (l.take j).map fun c => pad c.2)) ∧ Fact (BRow wq w.heap.size ⟨some ⟨w.heap.size + 1, 0, none⟩, 2, 2⟩ (two (l.length : Int))) ∧ Fact (Below w.heap.size w wq)) (fun _ v _ => l.length - (intOf v).toNat)
          case atStart => exact ⟨0, rfl, Nat.zero_le _, I3, N4, R3⟩
          case round =>
            clear I3 R3 N4 hvl
            obtain ⟨j, rfl, hj, R1, R2, R3⟩ := hrel
            obtain ⟨vs2, hV, hR⟩ := R1.out
            obtain ⟨A5, c5, rfl⟩ := Kd.R_slice hV
            have HV := Fact.mk hV
            have HVr := Fact.mk hR
            have hvl : vs2.length = 3 + j := by
              have := hR.1
              rw [this, List.length_append, List.length_map, List.length_take]
              show 3 + min j l.length = 3 + j
              omega
            clear R1 hV hR
            have HV2 : Fact (Kd.R slK 37 wr w.heap.size (fun k => w.heap.size ≤ k) (.slice A5 (3 + j + 1) c5) (⟨none, 0, 0⟩ :: vs2)) := ⟨by have := HV.out; rwa [List.length_cons, hvl] at this⟩
            have hbase : w.heap.size ≤ wr.heap.size := R3.out.size
            by_cases hlt3 : j < l.length
            · have hlt2 : (j : Int) < (l.length : Int) := by omega
              have hx : l[j]? = some l[j] := List.getElem?_eq_getElem hlt3
              have HX := Fact.mk hx
              obtain ⟨hb1, hb2, hb3⟩ := HB.out l[j] (List.getElem_mem hlt3)
              obtain ⟨ad, As, cs, hA, hs, hc⟩ := HC.out.at_ hx
              subst hA
              obtain ⟨c0, c1⟩ := hc wr (Only.of_below R3.out S)
              have HSee := Fact.mk (hs.step (Only.of_below R3.out S))
              clear hs hc hx
              generalize l[j] = x at *
              go_wp2_with fail
              refine (full_any As cs x.2 _ hb3 (HSee.out.reads _ (Only.alloc S wr _))).mono ?_
              rintro e w4 ⟨rfl, rfl⟩
              have NR := Fact.mk (BRow.new (wr.alloc (.cells #[.int .i64 x.1, .slice As x.2.length cs] 111)) (pad x.2) 64 (by rw [pad_length]; exact Nat.le_refl _) (by rw [pad_length]; decide))
              rw [pad_length] at NR
              have UW := Fact.mk ((U8.alloc wr (.cells #[.int .i64 x.1, .slice As x.2.length cs] 111)).trans (U8.alloc _ (.cells ((pad x.2).map (Value.int .u8)).toArray 5)))
              have OW := Fact.mk (Kd.R_alloc (Kd.R_alloc HV2.out (.cells #[.int .i64 x.1, .slice As x.2.length cs] 111)) (.cells ((pad x.2).map (Value.int .u8)).toArray 5))
              have BW : Fact (Below w.heap.size w ((wr.alloc (.cells #[.int .i64 x.1, .slice As x.2.length cs] 111)).alloc (.cells ((pad x.2).map (Value.int .u8)).toArray 5))) := ⟨(R3.out.alloc hbase _).alloc (by simp; omega) _⟩
              have SZ : Fact (((wr.alloc (.cells #[.int .i64 x.1, .slice As x.2.length cs] 111)).alloc (.cells ((pad x.2).map (Value.int .u8)).toArray 5)).heap.size = wr.heap.size + 2 ∧ (wr.alloc (.cells #[.int .i64 x.1, .slice As x.2.length cs] 111)).heap.size = wr.heap.size + 1) := ⟨by simp, by simp⟩
              go_wp2_with ((with_reducible refine gate_builtin (b := .append) (xs := #[.tmp 63, .tmp 67]) rfl ?_); at_builtin; refine Fact.out (p := _) ?_)
              refine Fact.mk ?_
              refine Kd.R_append slK (w0 := w) w.heap.size rfl (.tmp 63) (.tmp 67) 72 37 (.slice none 0 0) 24 rfl Try.underlying72 info_sl rfl (by decide) (by decide) (.slice A5 (3 + j + 1) c5) (⟨none, 0, 0⟩ :: vs2) ⟨some ⟨wr.heap.size + 1, 0, none⟩, 64, 64⟩ [.slice (some ⟨wr.heap.size + 1, 0, none⟩) 64 64] (fun k => w.heap.size ≤ k) (fun _ => False) rfl ?aX rfl (fun _ h => h.elim) ?aF ?aO ?aB ?aS ?aL ?_; (case aX => rw [SZ.out.1]; rfl); (case aF => intro k hk; rw [SZ.out.1] at hk; omega); (case aO => exact OW.out); (case aB => exact BW.out); (case aS => rw [SZ.out.1]; omega); (case aL => rw [List.length_cons, hvl]; omega); intro v1 w1 ho hb hg hat; have HO := Fact.mk ho; have HBw := Fact.mk hb; have HU := Fact.mk (U8.of_grown hg OW.out (by decide)); clear ho hb hg hat
              go_wp2_with fail
              refine ⟨⟨_, _, _, _, _, _, _, _, _, _, _, _, _, ?_, rfl⟩, ?_⟩
              rotate_left
              · simp [intOf]; omega
              refine ⟨j + 1, by go_num, by omega, ⟨vs2 ++ [⟨some ⟨wr.heap.size + 1, 0, none⟩, 64, 64⟩], by exact HO.out, ?_⟩, ⟨(R2.out.u8 UW.out).u8 HU.out⟩, HBw⟩
              rw [List.take_add_one, HX.out, Option.toList_some, List.map_append, ← List.append_assoc]
              refine ((HVr.out.u8 UW.out).u8 HU.out).snoc ?_
              have := (NR.out.u8 HU.out).lower (base' := w.heap.size) (by rw [SZ.out.2]; omega)
              rw [SZ.out.2] at this
              exact this
            · have he : j = l.length := by omega
              subst he
              have hlt2 : ¬ ((l.length : Int) < (l.length : Int)) := by omega
              have HVr2 : Fact (BRows wr w.heap.size vs2 (imagesOf l)) := ⟨by have := HVr.out; rwa [List.take_length, ← imagesOf_eq] at this⟩
              clear HVr HV
              have hpos : 0 < vs2.length := by omega
              obtain ⟨inner5, ho5⟩ := Kd.R_own HV2.out
              obtain ⟨g5, c5', e5, _, _⟩ := ho5.form (by simp)
              injection e5 with e5 _ e6
              subst e5 e6
              clear ho5 inner5
              have hc5 : 3 + l.length + 1 ≤ c5 := by
                obtain ⟨_, _, e, h2, _⟩ := Kd.R_reads HV2.out
                injection e with _ _ e
                subst e
                simp [hvl] at h2; omega
              go_wp2_with fail
              rw [show ((⟨none, 0, 0⟩ : SV) :: vs2).length = 3 + l.length + 1 from by rw [List.length_cons, hvl]]
              skip
              refine start_ (n := 7) (S := fun _ => True) (ds := []) #[false, false, false, false, false, false, false] (by kernel_rfl) rfl rfl trivial (fun _ => ?_)
              have RI : Fact (Rws (fun _ => False) wr.drew (some ⟨g5, 1, none⟩) (imagesOf l)) := ⟨Rws.tail (w := wr.drew) (Kd.R_drew HV2.out) (HVr2.out.u8 (U8.drew wr)) hpos (fun _ _ h => h) (fun _ h => h.elim)⟩
              have RO := Fact.mk (show Kd.R slK 37 wr.drew w.heap.size (fun k => w.heap.size ≤ k) (.slice (some ⟨g5, 0, none⟩) (3 + l.length + 1) c5) (⟨none, 0, 0⟩ :: vs2) from Kd.R_drew HV2.out)
              have RB := Fact.mk (HVr2.out.u8 (U8.drew wr))
              have RN := Fact.mk (R2.out.u8 (U8.drew wr))
              have BB : Fact (Below w.heap.size w wr.drew) := ⟨R3.out.drew⟩
              have hW : w.heap.size ≤ wr.drew.heap.size := hbase
              clear HV2 HVr2 R2 R3
              generalize wr.drew = W at *
              clear hbase
              refine pure_ (i := 0) (N := some 70) (v := .slice (some ⟨w.heap.size + 1, 0, none⟩) 2 2) (a' := ?_) #[true, false, false, false, false, false, false] rfl rfl (by kernel_rfl) (fun _ _ _ h => h) (Or.inl ⟨by rfl, exec_move (.inl rfl) rfl⟩) ?_ ?_
              rotate_left
              · simp only [Act.put, List.setIfInBounds_toArray, List.set_cons_zero, List.set_cons_succ, i64_w, i32_w]
                rfl
              refine pure_ (i := 3) (N := some 73) (v := .slice (some ⟨g5, 0, none⟩) (3 + l.length + 1) c5) (a' := ?_) #[true, false, false, true, false, false, false] rfl rfl (by kernel_rfl) (fun _ _ _ h => h) (Or.inl ⟨by rfl, exec_move (.inl rfl) rfl⟩) ?_ ?_
              rotate_left
              · simp only [Act.put, List.setIfInBounds_toArray, List.set_cons_zero, List.set_cons_succ, i64_w, i32_w]
                rfl
              refine pure_ (i := 4) (N := some 74) (v := .slice (some ⟨g5, 1, none⟩) (3 + l.length) (c5 - 1)) (a' := ?_) #[true, false, false, true, true, false, false] rfl rfl (by kernel_rfl) (fun _ _ _ h => h) (Or.inl ⟨by rfl, exec_slice rfl (slice_from1 g5 (3 + l.length) c5 hc5 (by omega))⟩) ?_ ?_
              rotate_left
              · simp only [Act.put, List.setIfInBounds_toArray, List.set_cons_zero, List.set_cons_succ, i64_w, i32_w]
                rfl
              refine one_ (i := 1) (N := some 71) #[true, true, false, true, true, false, false] rfl rfl (by kernel_rfl) (by decide) (fun K hK => ?_)
              refine value_ (v := .slice (some ⟨W.heap.size, 0, none⟩) 1 1) (w1 := W.alloc (.cells #[.slice (some ⟨w.heap.size + 1, 0, none⟩) 2 2] 37)) (by rfl) rfl (exec_build1 rfl rfl (build_row W (some ⟨w.heap.size + 1, 0, none⟩) 2 2)) ?_
              refine hK.out _ _ trivial (fun _ => ?_)
              clear hK K
              refine norm_ (a' := ?_) ?_ ?_
              rotate_left
              · show Act.put _ (some 71) _ = _
                simp only [Act.put, List.setIfInBounds_toArray, List.set_cons_zero, List.set_cons_succ, i64_w, i32_w]
                rfl
              have RS1 : Fact (Rws (fun _ => False) (W.alloc (.cells #[.slice (some ⟨w.heap.size + 1, 0, none⟩) 2 2] 37)) (some ⟨W.heap.size, 0, none⟩) [two (l.length : Int)]) :=
                ⟨Rws.of_rows (base := w.heap.size) (b0 := W.heap.size) (ok := fun _ => True) (n := 1) (c := 1) (vs := [⟨some ⟨w.heap.size + 1, 0, none⟩, 2, 2⟩]) ⟨fun _ _ => trivial, OwnRow.lit W W.heap.size (Reps.one (p := (⟨some ⟨w.heap.size + 1, 0, none⟩, 2, 2⟩ : SV)) (v := .slice (some ⟨w.heap.size + 1, 0, none⟩) 2 2) rfl (Reps.none _ _)) (Nat.le_refl _) (by simp)⟩ (BRows.cons (vs := []) (bs := []) ⟨rfl, fun i s b h => by simp at h⟩ (RN.out.u8 (U8.alloc W _))) (fun _ _ h => h) (fun _ h => h.elim)⟩
              have RI2 := Fact.mk (RI.out.step (Only.alloc (fun _ => False) W (.cells #[.slice (some ⟨w.heap.size + 1, 0, none⟩) 2 2] 37)))
              have RO2 := Fact.mk (Kd.R_alloc RO.out (.cells #[.slice (some ⟨w.heap.size + 1, 0, none⟩) 2 2] 37))
              have RB2 := Fact.mk (RB.out.u8 (U8.alloc W (.cells #[.slice (some ⟨w.heap.size + 1, 0, none⟩) 2 2] 37)))
              have RN2 := Fact.mk (RN.out.u8 (U8.alloc W (.cells #[.slice (some ⟨w.heap.size + 1, 0, none⟩) 2 2] 37)))
              have BB2 := Fact.mk (BB.out.alloc hW (.cells #[.slice (some ⟨w.heap.size + 1, 0, none⟩) 2 2] 37))
              have hW2 : w.heap.size ≤ (W.alloc (.cells #[.slice (some ⟨w.heap.size + 1, 0, none⟩) 2 2] 37)).heap.size := by simp; omega
              clear RI RO RB RN BB
              generalize hWW : W.alloc (.cells #[.slice (some ⟨w.heap.size + 1, 0, none⟩) 2 2] 37) = W2 at *
              clear hWW
              refine one_ (i := 2) (N := some 72) #[true, true, true, true, true, false, false] rfl rfl (by kernel_rfl) (by decide) (fun K hK => ?_)
              refine goes_ Try.func65 (by kernel_rfl) rfl #[.int .u32 2166136261, .slice (some ⟨W.heap.size, 0, none⟩) 1 1] (by rfl) rfl rfl (by (try simp only [List.map_toArray, List.map_cons, List.map_nil]); first | done | rfl) ?_
              refine (sum_any 2166136261 (by omega) (some ⟨W.heap.size, 0, none⟩) 1 [two (l.length : Int)] RS1.out).mono ?_
              rintro e w5 ⟨rfl, rfl⟩
              refine ⟨_, rfl, ?_⟩
              refine hK.out _ _ trivial (fun _ => ?_)
              clear hK K
              refine norm_ (a' := ?_) ?_ ?_
              rotate_left
              · show Act.put _ (some 72) _ = _
                simp only [Act.put, List.setIfInBounds_toArray, List.set_cons_zero, List.set_cons_succ, i64_w, i32_w]
                rfl
              refine one_ (i := 5) (N := some 75) #[true, true, true, true, true, true, false] rfl rfl (by kernel_rfl) (by decide) (fun K hK => ?_)
              refine goes_ Try.func65 (by kernel_rfl) rfl #[.int .u32 (sumOf 2166136261 [two (l.length : Int)]), .slice (some ⟨g5, 1, none⟩) (3 + l.length) (c5 - 1)] (by rfl) rfl rfl (by (try simp only [List.map_toArray, List.map_cons, List.map_nil]); first | done | rfl) ?_
              have hil : (imagesOf l).length = 3 + l.length := by rw [imagesOf_eq, List.length_append, List.length_map]; rfl
              have hsr := sumOf_range [two (l.length : Int)] 2166136261 (by omega)
              have hsum := sum_any (sumOf 2166136261 [two (l.length : Int)]) hsr (some ⟨g5, 1, none⟩) (c5 - 1) (imagesOf l) RI2.out
              rw [hil] at hsum
              refine hsum.mono ?_
              clear hsum
              rintro e w5 ⟨rfl, rfl⟩
              refine ⟨_, rfl, ?_⟩
              refine hK.out _ _ trivial (fun _ => ?_)
              clear hK K
              refine norm_ (a' := ?_) ?_ ?_
              rotate_left
              · show Act.put _ (some 75) _ = _
                simp only [Act.put, List.setIfInBounds_toArray, List.set_cons_zero, List.set_cons_succ, i64_w, i32_w]
                rfl
              have hss := sumOf_range (imagesOf l) _ hsr
              have hsA : sumOf (sumOf 2166136261 [two (l.length : Int)]) (imagesOf l) = sumAll l := rfl
              rw [hsA] at hss ⊢
              obtain ⟨hs0, hs1⟩ := hss
              have hHd : Fact (headOf l = pad ([82, 68] ++ two (l.length : Int) ++ [sumAll l / 16777216 % 256, sumAll l / 65536 % 256, sumAll l / 256 % 256, sumAll l % 256])) := ⟨rfl⟩
              clear hsr hsA RI2 RS1
              generalize sumAll l = s at *
              refine pure_ (i := 6) (N := some 11) (v := .int .u32 s) (a' := ?_) #[true, true, true, true, true, true, true] rfl rfl (by kernel_rfl) (fun _ _ _ h => h) (Or.inl ⟨by rfl, exec_move (.inr rfl) rfl⟩) ?_ ?_
              rotate_left
              · simp only [Act.put, List.setIfInBounds_toArray, List.set_cons_zero, List.set_cons_succ, i64_w, i32_w]
                rfl
              refine done_ (by kernel_rfl) ?_
              have hcv := const_two W2 82 68
              go_wp2_with ((with_reducible refine gate_builtin (b := .append) (xs := #[.tmp 78, .tmp 79]) rfl ?_); at_builtin; refine Fact.out (p := _) ?_)
              clear hcv
              refine Fact.mk ?_
              have SZ : Fact ((W2.alloc (.cells #[.int .u8 82, .int .u8 68] 5 (2, 3))).heap.size = W2.heap.size + 1) := ⟨by simp⟩
              have N2 := Fact.mk (RN2.out.u8 (U8.alloc W2 (.cells #[.int .u8 82, .int .u8 68] 5 (2, 3))))
              refine wpList_grow rfl (.tmp 78) (.tmp 79) 37 5 rfl Try.underlying37 info_u8 ⟨W2.heap.size, 0, none⟩ 2 2 [82, 68] rfl ⟨w.heap.size + 1, 0, none⟩ 2 2 (two (l.length : Int)) rfl (reads_marked W2 82 68 (2, 3)) N2.out.reads (by omega) (by omega) ?_
              intro v3 w3 ho hb
              rw [SZ.out] at ho hb
              obtain ⟨A3', c3'', rfl⟩ := Kd.R_slice ho
              have R3 := Fact.mk (Kd.R_mono (Kd.R_lower ho (Nat.le_succ _)) (ok' := fun k => W2.heap.size ≤ k) (fun k hk => Nat.le_of_succ_le hk))
              have B3 : Fact (Below W2.heap.size W2 w3) := ⟨(below_alloc (Below.refl _ _) _).trans (hb.mono (Nat.le_succ _))⟩
              clear ho hb N2 SZ
              refine norml_ (a' := ?_) ?_ ?_
              rotate_left
              · show Act.put _ (some 80) _ = _
                simp only [Act.put, List.setIfInBounds_toArray, List.set_cons_zero, List.set_cons_succ, i64_w, i32_w]
                rfl
              go_wp2_with ((with_reducible refine gate_builtin (b := .append) (xs := #[.tmp 80, .tmp 92]) rfl ?_); at_builtin; refine Fact.out (p := _) ?_)
              refine Fact.mk ?_
              have e4 : [s / 16777216 % 256, s / 65536 % 256, s / 256 % 256, s % 256] = [s / 16777216, s / 65536 % 256, s / 256 % 256, s % 256] := by congr 1; omega
              rw [e4] at hHd
              clear e4
              have hb3 : W2.heap.size ≤ w3.heap.size := B3.out.size
              refine Kd.R_append_rows (Kd.int .u8) (w0 := W2) W2.heap.size rfl (.tmp 80) (.tmp 92) 37 5 (.int .u8 0) 1 rfl Try.underlying37 info_u8 rfl (by decide) (by omega) (.slice A3' ([82, 68] ++ two (l.length : Int)).length c3'') ([82, 68] ++ two (l.length : Int)) [s / 16777216, s / 65536 % 256, s / 256 % 256, s % 256] (some ⟨w3.heap.size, 0, none⟩) 4 4 (fun k => W2.heap.size ≤ k) (fun _ => False) rfl rfl ?aO ?aR (fun _ _ h => h) (fun _ h => h.elim) ?aF ?aB ?aS ?aL ?_
              case aR => exact (bytes_new w3 [s / 16777216, s / 65536 % 256, s / 256 % 256, s % 256] 5 (by simp)).reads
              case aO => exact Kd.R_alloc R3.out _
              case aF => intro k hk; simp at hk; omega
              case aB => exact B3.out.alloc hb3 _
              case aS => simp; omega
              case aL => simp [two]
              intro v4 w4 ho hb hg hat
              obtain ⟨A4', c4', rfl⟩ := Kd.R_slice ho
              have R4 := Fact.mk ho
              have B4 := Fact.mk hb
              clear ho hb hg hat R3 B3 hb3
              have hl8 : ([82, 68] ++ two (l.length : Int) ++ [s / 16777216, s / 65536 % 256, s / 256 % 256, s % 256]).length ≤ 64 := by simp [two]
              generalize [82, 68] ++ two (l.length : Int) ++ [s / 16777216, s / 65536 % 256, s / 256 % 256, s % 256] = hd at *
              refine norml_ (a' := ?_) ?_ ?_
              rotate_left
              · show Act.put _ (some 93) _ = _
                simp only [Act.put, List.setIfInBounds_toArray, List.set_cons_zero, List.set_cons_succ, i64_w, i32_w]
                rfl
              go_wp2_with fail
              refine (full_any A4' c4' hd w4 hl8 (own_reads_ R4.out).2.2).mono ?_
              rintro e w5 ⟨rfl, rfl⟩
              have BW := Fact.mk (BB2.out.trans (B4.out.mono hW2))
              have hW4 : w.heap.size ≤ w4.heap.size := BW.out.size
              have RO5 := Fact.mk (Kd.R_alloc (Kd.R_below RO2.out B4.out) (.cells ((pad hd).map (Value.int .u8)).toArray 5))
              have RB5 := Fact.mk ((RB2.out.u8 (U8.of_below B4.out)).u8 (U8.alloc w4 (.cells ((pad hd).map (Value.int .u8)).toArray 5)))
              have NR := Fact.mk ((BRow.new w4 (pad hd) 64 (by rw [pad_length]; exact Nat.le_refl _) (by rw [pad_length]; decide)).lower hW4)
              rw [pad_length] at NR
              have BW5 := Fact.mk (BW.out.alloc hW4 (.cells ((pad hd).map (Value.int .u8)).toArray 5))
              have hW5 : w.heap.size ≤ (w4.alloc (.cells ((pad hd).map (Value.int .u8)).toArray 5)).heap.size := by simp; omega
              obtain ⟨f0, f1, _⟩ := first_cell RO5.out
              have hg5 : w.heap.size ≤ g5 := RO2.out.1 g5 (by simp [Value.ownBlock])
              clear RO2 RB2 RN2 B4 BB2 R4 BW
              generalize (w4.alloc (.cells ((pad hd).map (Value.int .u8)).toArray 5)) = w5 at *
              dsimp only
              go_wp2_with ((with_reducible refine gate_op (.indexAddr 72 (.tmp 76) (.const (.int .i64 0))) rfl ?_); refine Fact.out (p := _) ?_)
              refine Fact.mk ?_
              refine wpList_value rfl (exec_index rfl (index_first _ g5 (3 + l.length) c5)) ?_
              refine norml_ (a' := ?_) ?_ ?_
              rotate_left
              · show Act.put _ (some 95) _ = _
                simp only [Act.put, List.setIfInBounds_toArray, List.set_cons_zero, List.set_cons_succ, i64_w, i32_w]
                rfl
              refine wpList_skip0 rfl rfl (exec_store2 (vx := .pointer (some ⟨g5, 0, none⟩)) (vy := .slice (some ⟨w4.heap.size, 0, none⟩) 64 64) rfl rfl rfl (store_first _ g5 _ (some ⟨w4.heap.size, 0, none⟩) 64 64 f0 f1)) ?_
              go_wp2_with fail
              go_ret
              have RO6 := first_put RO5.out ⟨some ⟨w4.heap.size, 0, none⟩, 64, 64⟩
              have RB6 := (RB5.out.cons NR.out).u8 (first_u8 RO5.out (.slice (some ⟨w4.heap.size, 0, none⟩) 64 64))
              refine ⟨g5, c5, ?_, by omega, fun S' hS' => ?_, BW5.out.setCell hg5 _⟩
              · have e34 : 3 + l.length + 1 = 4 + l.length := by omega
                first | (rw [e34]; done) | (rw [← e34]; done) | (simp; omega) | (simp [e34]; done) | (congr 2; omega)
              · rw [show jobOf l = pad hd :: imagesOf l from by unfold jobOf; rw [hHd.out]]
                exact Rws.of_rows RO6 RB6 (fun k hk hs => by have := hS' k hs; omega) hS'
end Go.Proofs.Ytdkijmikafmgaaa.Dk
namespace Go.Proofs.Ytdkijmikafmgaaa.Dk
open Go.RowKit Go.Maps Go.Proofs.YtdkijmikafmgaaaW.PrintWords Go.Proofs.YtdkijmikafmgaaaW.PrintLast Go.Proofs.YtdkijmikafmgaaaW.PrintMore
set_option linter.unusedVariables false
set_option linter.unusedSimpArgs false

section
variable {w : World} {L : DL} {D : PD} {q : Nat} {br : Bool} {S : Nat → Prop}
/-- What 'Do' comes to. -/
def DoTo (w : World) (L : DL) (q : Nat) (r : Int × PD × Bool) (e : Ending) (w' : World) : Prop :=
  e = .returned (.int .i64 r.1) ∧ IsDisk w' L r.2.1 ∧ IsRedo w' q L r.2.2 ∧ Only (RS L q) w w'
theorem Do_broken (hd : IsDisk w L D) (hr : IsRedo w q L true) (A : Option Addr) (n c : Nat) :
    Calls Try.prog 33 #[.pointer (some ⟨q, 0, none⟩), .slice A n c] w (DoTo w L q (13, D, true)) := by
  have c1 := hr.c1
  have HD := Fact.mk hd
  have HR := Fact.mk hr
  clear hd hr
  go_enter Try.func33, Try.ntmps33
  go_wp2_with fail
  go_ret
  exact ⟨rfl, HD.out, HR.out, Only.refl _ _⟩
theorem Do_wrong (hd : IsDisk w L D) (hr : IsRedo w q L false) (A : Option Addr) (c : Nat) (l : List Ch) (hl : Chs S w A l) (h : rightOf ((D.n : Int) - 100) l = false) :
    Calls Try.prog 33 #[.pointer (some ⟨q, 0, none⟩), .slice A l.length c] w (DoTo w L q (10, D, false)) := by
  have c1 := hr.c1
  have HD := Fact.mk hd
  have HR := Fact.mk hr
  have HT := Fact.mk (right_any hd hr A c l hl)
  rw [h] at HT
  clear hd hr hl h
  go_enter Try.func33, Try.ntmps33
  go_wp2_with fail
  refine HT.out.mono ?_
  rintro e w1 ⟨rfl, b1⟩
  have B1 := Fact.mk b1
  clear b1
  go_wp2_with fail
  go_ret
  exact ⟨rfl, HD.out.below B1.out, HR.out.only (Only.of_below B1.out (fun _ => False)) (fun h => h), Only.of_below B1.out _⟩
end
end Go.Proofs.Ytdkijmikafmgaaa.Dk
namespace Go.Proofs.Ytdkijmikafmgaaa.Dk
open Go.RowKit Go.Maps Go.Proofs.YtdkijmikafmgaaaW.PrintWords Go.Proofs.YtdkijmikafmgaaaW.PrintLast Go.Proofs.YtdkijmikafmgaaaW.PrintMore
set_option linter.unusedVariables false
set_option linter.unusedSimpArgs false

theorem Rws.rest {S : Nat → Prop} {w : World} {g : Nat} {b : List Int} {r : List (List Int)} (h : Rws S w (some ⟨g, 0, none⟩) (b :: r)) (hp : 0 < r.length) : Rws S w (some ⟨g, 1, none⟩) r := by
  obtain ⟨vs, h1, h2, h3⟩ := h
  cases vs with
  | nil => simp at h1
  | cons v0 vs =>
    have hl : vs.length = r.length := by simpa using h1
    refine ⟨vs, hl, fun w' ho => ?_, fun j v x hv hx => h3 (j + 1) v x (by simpa using hv) (by simpa using hx)⟩
    have h4 := Kd.C_drop (c := vs.length + 2) (m := 1) (h2 w' ho) (by simp) (by simp)
    rw [if_neg (by omega)] at h4
    exact h4
theorem numbered_get (k : Int) (l : List (List Int)) (i : Nat) : (PD.numbered k l)[i]? = l[i]?.map fun b => (k + i, b) := by
  induction l generalizing k i with
  | nil => simp [PD.numbered]
  | cons b r ih =>
    cases i with
    | zero => simp [PD.numbered]
    | succ i =>
      show (PD.numbered (k + 1) r)[i]? = _
      rw [ih]
      simp
      congr 1
      funext b
      congr 1
      omega
theorem numbered_length (k : Int) (l : List (List Int)) : (PD.numbered k l).length = l.length := by
  induction l generalizing k with
  | nil => rfl
  | cons b r ih => simp [PD.numbered, ih]
theorem right_props {n : Int} {l : List Ch} (h : rightOf n l = true) : (∀ c ∈ l, 0 ≤ c.1 ∧ c.1 < n ∧ c.2.length ≤ 64) ∧ (l.map (·.1)).Nodup ∧ 1 ≤ l.length ∧ l.length ≤ 96 := by
  unfold rightOf at h
  exact of_decide_eq_true h
/-- Rows numbered, as slices by their words. -/
def Numbers (S : Nat → Prop) (w : World) (bs : List (List Int)) (vs : List (Int × SV)) : Prop := ∀ (i : Nat) v b, vs[i]? = some v → bs[i]? = some b → v.1 = 1 + (i : Int) ∧ Sees S w v.2 b
theorem Numbers.snoc {S : Nat → Prop} {w : World} {bs : List (List Int)} {vs : List (Int × SV)} (h : Numbers S w bs vs) {j : Nat} (hj : vs.length = j) {b : List Int} (hx : bs[j]? = some b) {n : Int} (hn : n = 1 + (j : Int)) {s : SV} (hs : Sees S w s b) : Numbers S w bs (vs ++ [(n, s)]) := by
  intro i v y hv hy
  rcases Nat.lt_trichotomy i vs.length with hi | hi | hi
  · rw [List.getElem?_append_left hi] at hv; exact h i v y hv hy
  · subst hi; subst hj
    rw [List.getElem?_append_right (Nat.le_refl _), Nat.sub_self] at hv
    obtain rfl := Option.some.inj hv
    rw [hx] at hy
    obtain rfl := Option.some.inj hy
    exact ⟨hn, hs⟩
  · rw [List.getElem?_eq_none (by simp; omega)] at hv; cases hv
end Go.Proofs.Ytdkijmikafmgaaa.Dk
namespace Go.Proofs.Ytdkijmikafmgaaa.Dk
open Go.RowKit Go.Maps Go.Proofs.YtdkijmikafmgaaaW.PrintWords Go.Proofs.YtdkijmikafmgaaaW.PrintLast Go.Proofs.YtdkijmikafmgaaaW.PrintMore
set_option linter.unusedVariables false
set_option linter.unusedSimpArgs false

theorem one_data (w : World) (S : Nat → Prop) (hs : ∀ k, S k → k < w.heap.size) (n : Int) (s : SV) (b : List Int) (h : Sees S w s b) : Chs S (w.alloc (.cells #[.int .i64 n, .slice s.A s.n s.c] 111)) (some ⟨w.heap.size, 0, none⟩) [(n, b)] := by
  have hR : Kd.R chK 111 (w.alloc (.cells #[.int .i64 n, .slice s.A s.n s.c] 111)) w.heap.size (fun k => w.heap.size ≤ k) (.slice (some ⟨w.heap.size, 0, none⟩) 1 1) [(n, s)] :=
    ⟨fun k hk => by simp [Value.ownBlock] at hk; omega, OwnRow.lit w w.heap.size (Reps.c2 (M_ch _ _ _ n s) (Reps.none _ _)) (Nat.le_refl _) (by simp)⟩
  refine Chs.of_own hR (fun k hk h => by have := hs k h; omega) rfl ?_
  intro j v x hv hx
  rcases j with _ | j
  · obtain rfl := Option.some.inj hv
    obtain rfl := Option.some.inj hx
    exact ⟨rfl, h.step (Only.alloc S _ _)⟩
  · cases hv
section
variable {w : World} {L : DL} {D : PD} {q : Nat} {br : Bool} {S : Nat → Prop}
set_option maxHeartbeats 4000000 in
set_option maxRecDepth 1000000 in
theorem Do_right (hd : IsDisk w L D) (hr : IsRedo w q L false) (A : Option Addr) (c : Nat) (l : List Ch) (hl : Chs S w A l) (hS : ∀ k, RS L q k → S k) (hlt : ∀ k, S k → k < w.heap.size) (h : rightOf ((D.n : Int) - 100) l = true) :
    Calls Try.prog 33 #[.pointer (some ⟨q, 0, none⟩), .slice A l.length c] w (DoTo w L q ((D.doJob l).1, (D.doJob l).2, decide ((D.doJob l).1 ≠ 0))) := by
  have c1 := hr.c1
  have HD := Fact.mk hd
  have HR := Fact.mk hr
  have HC := Fact.mk hl
  have HS := Fact.mk hS
  have HLt := Fact.mk hlt
  have HQ := Fact.mk (hr.apart hd)
  have HP := Fact.mk (right_props h)
  have hn := hd.good.most
  have HT := Fact.mk (right_any hd hr A c l hl)
  rw [h] at HT
  clear hd hr hl h hS hlt
  go_enter Try.func33, Try.ntmps33
  go_wp2_with fail
  refine HT.out.mono ?_
  rintro e w1 ⟨rfl, b1⟩
  have B1 := Fact.mk b1
  clear b1 HT c1
  go_wp2_with fail
  refine (job_any A c l (HC.out.step (Only.of_below B1.out S)) HP.out.2.2.2 (fun x hx => ⟨(HP.out.1 x hx).1, by have := (HP.out.1 x hx).2.1; omega, (HP.out.1 x hx).2.2⟩)).mono ?_
  rintro e w2 ⟨g, c2, rfl, hc2, hrw, b2⟩
  have B2 := Fact.mk (next_new B1.out b2)
  have J2 := Fact.mk (hrw S (fun k hk => Nat.lt_of_lt_of_le (HLt.out k hk) B1.out.size))
  clear hrw b2 B1
  go_wp2_with fail
  have hil : (imagesOf l).length = 3 + l.length := by rw [imagesOf_eq, List.length_append, List.length_map]; rfl
  have hlen := HP.out.2.2.2
  have JI := Fact.mk (Rws.rest (r := imagesOf l) (b := headOf l) J2.out (by omega))
  have hb2 : w.heap.size ≤ w2.heap.size := B2.out.size
  have I0 : Fact (∃ vs, vs.length = 0 ∧ Kd.R chK 111 w2 w2.heap.size (fun k => w2.heap.size ≤ k) (.slice none 0 0) vs ∧ Numbers S w2 (imagesOf l) vs) := ⟨[], rfl, Kd.R_nil _ _ _ _ _, fun i v x hv => by simp at hv⟩
  go_loopw [6, 25] (fun v6 v25 wr => ∃ j : Nat, v25 = .int .i64 (j : Int) ∧ j ≤ 3 + l.length ∧ Fact (∃ vs, vs.length = j ∧ Kd.R chK 111 wr w2.heap.size (fun k => w2.heap.size ≤ k) v6 vs ∧ Numbers S w2 (imagesOf l) vs) ∧ Fact (Below w2.heap.size w2 wr)) (fun _ v _ => 3 + l.length - (intOf v).toNat)
  case atStart => exact ⟨0, rfl, Nat.zero_le _, I0, ⟨Below.refl _ _⟩⟩
  case round =>
    obtain ⟨j, rfl, hj, R1, R2⟩ := hrel
    clear I0
    obtain ⟨vs, hvl, hR, hL⟩ := R1.out
    obtain ⟨A6, c6, rfl⟩ := Kd.R_slice hR
    have HV := Fact.mk hR
    have HN := Fact.mk hL
    have hbase : w2.heap.size ≤ wr.heap.size := R2.out.size
    clear R1 hR hL
    by_cases hlt : j < 3 + l.length
    · have hlt2 : (j : Int) < 3 + (l.length : Int) := by omega
      have hx : (imagesOf l)[j]? = some (imagesOf l)[j] := List.getElem?_eq_getElem (by omega)
      have HX := Fact.mk hx
      obtain ⟨ad, As, cs, hA, hs, hc⟩ := JI.out.at_ hx
      injection hA with hA
      subst hA
      have hc := hc wr (Only.of_below R2.out S)
      have HSee := Fact.mk hs
      rw [show (⟨g, 1, none⟩ : Addr).add j = ⟨g, 1 + j, none⟩ from Addr.add_mid _ _ _] at hc
      clear hs hx
      generalize (imagesOf l)[j] = x at *
      go_wp2_with ((with_reducible refine gate_builtin (b := .append) (xs := #[.tmp 30, .tmp 35]) rfl ?_); at_builtin; refine Fact.out (p := _) ?_)
      refine Fact.mk ?_
      refine Kd.R_append chK (w0 := w2) w2.heap.size rfl (.tmp 30) (.tmp 35) 79 111 (.agg #[.int .i64 0, .slice none 0 0]) 32 rfl Try.underlying79 info_ch rfl (by decide) (by decide) (.slice A6 vs.length c6) vs (1 + (j : Int), ⟨As, x.length, cs⟩) [.int .i64 (1 + (j : Int)), .slice As x.length cs] (fun k => w2.heap.size ≤ k) (fun _ => False) rfl rfl (M_ch _ _ _ _ ⟨As, x.length, cs⟩) (fun _ h => h.elim) ?aF ?aO ?aB ?aS ?aL ?_
      case aF => intro k hk; omega
      case aO => exact HV.out
      case aB => exact R2.out
      case aS => exact hbase
      case aL => omega
      intro v1 w3 ho hb hg hat
      have HO := Fact.mk ho
      have HB := Fact.mk hb
      clear ho hb hg hat
      go_wp2_with fail
      exact ⟨⟨j + 1, by go_num, by omega, ⟨_, by simp [hvl], HO.out, HN.out.snoc hvl HX.out rfl HSee.out⟩, HB⟩, by simp [intOf]; omega⟩
    · have he : j = 3 + l.length := by omega
      subst he
      have hlt2 : ¬ (3 + (l.length : Int) < 3 + (l.length : Int)) := by omega
      have HChs : Fact (Chs S wr A6 (PD.numbered 1 (imagesOf l))) := ⟨Chs.of_own HV.out (fun k hk h => by have := HLt.out k h; omega) (by rw [hvl, numbered_length, hil]) (fun i v y hv hy => by
        rw [numbered_get] at hy
        cases hx : (imagesOf l)[i]? with
        | none => rw [hx] at hy; cases hy
        | some b =>
          rw [hx] at hy
          obtain rfl := Option.some.inj hy
          obtain ⟨e1, e2⟩ := HN.out i v b hv hx
          exact ⟨e1, e2.step (Only.of_below R2.out S)⟩)⟩
      have B3 := Fact.mk (next_new B2.out R2.out)
      have HD1 : Fact (IsDisk wr L D) := ⟨HD.out.below B3.out⟩
      have HR1 : Fact (IsRedo wr q L false) := ⟨HR.out.only (Only.of_below B3.out L.S) HQ.out⟩
      have HC1 := Fact.mk (HC.out.step (Only.of_below B3.out S))
      have J3 := Fact.mk (J2.out.step (Only.of_below R2.out S))
      have hvl2 : vs.length = (PD.numbered 1 (imagesOf l)).length := by rw [hvl, numbered_length, hil]
      have HF : Fact (D.doJob l = if (D.writes (PD.numbered 1 (imagesOf l))).1 = 0 then (if ((D.writes (PD.numbered 1 (imagesOf l))).2.writes [(0, headOf l)]).1 = 0 then ((D.writes (PD.numbered 1 (imagesOf l))).2.writes [(0, headOf l)]).2.finish l else (D.writes (PD.numbered 1 (imagesOf l))).2.writes [(0, headOf l)]) else D.writes (PD.numbered 1 (imagesOf l))) := ⟨rfl⟩
      generalize PD.numbered 1 (imagesOf l) = l2 at *
      rw [hvl2]
      clear HV HN hvl hvl2 JI
      go_wp2_with fail
      refine (write_any HD1.out HR1.out A6 c6 l2 HChs.out (fun k hk => HS.out k (.inl hk))).mono ?_
      rintro e w4 ⟨rfl, h4, o4⟩
      have H4 := Fact.mk h4
      have O4 : Fact (Only L.S w w4) := ⟨(Only.of_below B3.out L.S).trans o4⟩
      have Q4 : Fact (IsRedo w4 q L false) := ⟨HR1.out.only o4 HQ.out⟩
      have HC4 := Fact.mk (HC1.out.step (o4.mono (fun k hk => HS.out k (.inl hk))))
      have J4 := Fact.mk (J3.out.step (o4.mono (fun k hk => HS.out k (.inl hk))))
      have G4 : Fact (∀ k, S k → k < w4.heap.size) := ⟨fun k hk => Nat.lt_of_lt_of_le (HLt.out k hk) O4.out.size⟩
      clear h4 o4 HD1 HR1 HChs HC1 J3 J2 B3 B2 R2 hb2
      by_cases hr : (D.writes l2).1 = 0
      · have HF2 := HF.out
        rw [if_pos hr] at HF2
        replace HF2 := Fact.mk HF2
        generalize D.writes l2 = r at *
        obtain ⟨r1, r2⟩ := r
        obtain rfl : r1 = 0 := hr
        clear HF
        obtain ⟨ad, As, cs, hA, hs, hc⟩ := J4.out.at_ (j := 0) (x := headOf l) rfl
        injection hA with hA
        subst hA
        have hc := hc w4 (Only.refl _ _)
        rw [show (⟨g, 0, none⟩ : Addr).add 0 = ⟨g, 0, none⟩ from rfl] at hc
        have HSee := Fact.mk hs
        clear hs
        rename_i hc0
        clear hc0
        generalize headOf l = hd at *
        go_wp2_with fail
        refine (write_any (S := S) (H4.out.alloc _) (Q4.out.only (Only.alloc L.S _ _) HQ.out) _ 1 [(0, hd)] (one_data w4 S G4.out 0 _ hd HSee.out) (fun k hk => HS.out k (.inl hk))).mono ?_
        rintro e w5 ⟨rfl, h5, o5⟩
        have H5 := Fact.mk h5
        have O45 : Fact (Only L.S w4 w5) := ⟨(Only.alloc L.S _ _).trans o5⟩
        have O5 : Fact (Only L.S w w5) := ⟨O4.out.trans O45.out⟩
        have Q5 : Fact (IsRedo w5 q L false) := ⟨Q4.out.only O45.out HQ.out⟩
        have HC5 := Fact.mk (HC4.out.step (O45.out.mono (fun k hk => HS.out k (.inl hk))))
        have G5 : Fact (∀ k, S k → k < w5.heap.size) := ⟨fun k hk => Nat.lt_of_lt_of_le (HLt.out k hk) O5.out.size⟩
        clear h5 o5 hc
        by_cases hr : (r2.writes [(0, hd)]).1 = 0
        · have HF3 := HF2.out
          rw [if_pos hr] at HF3
          replace HF3 := Fact.mk HF3
          generalize r2.writes [(0, hd)] = r at *
          obtain ⟨r3, r4⟩ := r
          obtain rfl : r3 = 0 := hr
          clear HF2
          go_wp2_with fail
          refine (finish_any (S := S) H5.out Q5.out A c l HC5.out (fun k hk => HS.out k (.inl hk)) G5.out (fun x hx => ⟨(HP.out.1 x hx).1, by have := (HP.out.1 x hx).2.1; omega⟩) HP.out.2.2.2).mono ?_
          rintro e w6 ⟨rfl, h6, o6⟩
          have H6 := Fact.mk h6
          have Q6 := Fact.mk (Q5.out.only o6 HQ.out)
          have O6 := Fact.mk (O5.out.trans o6)
          have c0 := Q6.out.c0
          have f1 := Q6.out.f 1
          have c1 := Q6.out.c1
          clear h6 o6
          have HF4 : Fact (D.doJob l = r4.finish l) := HF3
          generalize r4.finish l = r at *
          obtain ⟨r5, r6⟩ := r
          clear HF3
          dsimp only at H6 ⊢
          have eb : decide (r5 ≠ 0) = (r5 != 0) := by by_cases h : r5 = 0 <;> simp [h]
          have EB := Fact.mk eb
          clear eb
          go_wp2_with fail
          go_ret
          rw [HF4.out]
          refine ⟨rfl, Q6.out.set_disk H6.out _, ?_, (O6.out.mono (fun k hk => .inl hk)).trans (Only.setCell (S := RS L q) _ (.inr rfl) _)⟩
          show IsRedo _ q L (decide (r5 ≠ 0))
          rw [EB.out]
          exact Q6.out.set _
        · have HF3 := HF2.out
          rw [if_neg hr] at HF3
          replace HF3 := Fact.mk HF3
          generalize r2.writes [(0, hd)] = r at *
          obtain ⟨r3, r4⟩ := r
          have hr : ¬ r3 = 0 := hr
          have c0 := Q5.out.c0
          have f1 := Q5.out.f 1
          have c1 := Q5.out.c1
          clear HF2
          go_wp2_with fail
          go_ret
          rw [HF3.out]
          exact ⟨rfl, Q5.out.set_disk H5.out _, by rw [show decide ((r3, r4).1 ≠ 0) = (r3 != 0) from by simp [hr]]; exact Q5.out.set _, (O5.out.mono (fun k hk => .inl hk)).trans (Only.setCell (S := RS L q) _ (.inr rfl) _)⟩
      · have HF2 := HF.out
        rw [if_neg hr] at HF2
        replace HF2 := Fact.mk HF2
        generalize D.writes l2 = r at *
        obtain ⟨r1, r2⟩ := r
        have hr : ¬ r1 = 0 := hr
        have c0 := Q4.out.c0
        have f1 := Q4.out.f 1
        have c1 := Q4.out.c1
        clear HF
        go_wp2_with fail
        go_ret
        rw [HF2.out]
        exact ⟨rfl, Q4.out.set_disk H4.out _, by rw [show decide ((r1, r2).1 ≠ 0) = (r1 != 0) from by simp [hr]]; exact Q4.out.set _, (O4.out.mono (fun k hk => .inl hk)).trans (Only.setCell (S := RS L q) _ (.inr rfl) _)⟩
end
/-- '(*Redo).Do'. -/
theorem Do_any {w : World} {L : DL} {D : PD} {q : Nat} {br : Bool} {S : Nat → Prop} (hd : IsDisk w L D) (hr : IsRedo w q L br) (A : Option Addr) (c : Nat) (l : List Ch) (hl : Chs S w A l) (hS : ∀ k, RS L q k → S k) (hlt : ∀ k, S k → k < w.heap.size) :
    Calls Try.prog 33 #[.pointer (some ⟨q, 0, none⟩), .slice A l.length c] w (DoTo w L q (D.do_ br l)) := by
  cases br with
  | true => exact Do_broken hd hr A l.length c
  | false =>
    unfold PD.do_
    rw [if_neg (by decide)]
    by_cases h : rightOf ((D.n : Int) - 100) l = false
    · rw [if_pos h]; exact Do_wrong hd hr A c l hl h
    · rw [if_neg h]; exact Do_right hd hr A c l hl hS hlt (by simpa using h)
end Go.Proofs.Ytdkijmikafmgaaa.Dk
