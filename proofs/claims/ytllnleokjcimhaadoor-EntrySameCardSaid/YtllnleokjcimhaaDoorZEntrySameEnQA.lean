import Derived.Test.YtllnleokjcimhaaDoorChecked
import Derived.Test.YtllnleokjcimhaaDoorZEntrySameWWords
import Derived.Test.YtllnleokjcimhaaDoorZEntrySameWLast
import Derived.Test.YtllnleokjcimhaaDoorZEntrySameWMore
import Derived.Below
import Derived.Laws.Rows
import Derived.Lib.Hide
import Derived.Deep.Draws
import Derived.WalkLawsBesides
import Derived.WalkSpells
import Derived.Outline
import Derived.IntWalk
import Derived.KernelRfl
import Derived.Laws.MakeOwn
import Derived.Laws.IdiomCopy
import Derived.StillTailTactics
import Derived.Maps.AppendAt
import Derived.OwnWalk
import Derived.Shelf.Abstract
import Derived.Deep.AppendLies
import Derived.Laws.BytesArg
import Derived.Laws.OwnMore
import Derived.Deep.OwnRows
import Derived.Tactics
import Derived.Lib.ConvBytes
import Derived.Laws.Slices
import Derived.WalkKit
import Derived.RowKit3
import Derived.Deep.LoopGhost
import Derived.Deep.QuietTactic
import Derived.BigQuiet
import Derived.WideLaws
import Derived.Deep.DeepCutAuto
import Derived.Deep.CutBlock
import Derived.Deep.RegionHeld3
import Derived.Lib.AppendStr
import Derived.ArgAppend
import Derived.OrdersHeld
import Derived.Laws.BitsLemmas
import Derived.RowKit
import Derived.Lib.SlBytesConst
import Derived.Lib.SlTrimSet
/-
Facts that a walk hides; what turns from world to world; small laws on rows of bytes.
-/
namespace Go.Proofs.YtllnleokjcimhaaDoor.En
open Go.RowKit Go.Maps Go.Proofs.YtllnleokjcimhaaDoorW.PrintWords Go.Proofs.YtllnleokjcimhaaDoorW.PrintLast Go.Proofs.YtllnleokjcimhaaDoorW.PrintMore
set_option linter.unusedVariables false
set_option linter.unusedSimpArgs false
/-- A fact that the walk's simp doesn't look into. -/
structure Fact (p : Prop) : Prop where mk :: (out : p)
/-- From w to w' nothing that was there has turned but blocks of S. -/
structure Only (S : Nat → Prop) (w w' : World) : Prop where
  os : w'.os = w.os
  tape : w'.tape = w.tape
  output : w'.output = w.output
  size : w.heap.size ≤ w'.heap.size
  block : ∀ k, k < w.heap.size → ¬ S k → w'.heap[k]? = w.heap[k]?
theorem Only.refl (S : Nat → Prop) (w : World) : Only S w w := ⟨rfl, rfl, rfl, Nat.le_refl _, fun _ _ _ => rfl⟩
theorem Only.then_ {S S2 : Nat → Prop} {w w1 w2 : World} (h : Only S w w1) (k : Only S2 w1 w2) (hs : ∀ k, S2 k → S k ∨ w.heap.size ≤ k) : Only S w w2 :=
  ⟨k.os.trans h.os, k.tape.trans h.tape, k.output.trans h.output, Nat.le_trans h.size k.size, fun i hi hn =>
    (k.block i (Nat.lt_of_lt_of_le hi h.size) (fun hk => (hs i hk).elim hn (fun h2 => by omega))).trans (h.block i hi hn)⟩
theorem Only.trans {S : Nat → Prop} {w w1 w2 : World} (h : Only S w w1) (k : Only S w1 w2) : Only S w w2 := h.then_ k (fun _ hk => .inl hk)
theorem Only.mono {S S2 : Nat → Prop} {w w' : World} (h : Only S w w') (hs : ∀ k, S k → S2 k) : Only S2 w w' := ⟨h.os, h.tape, h.output, h.size, fun i hi hn => h.block i hi (fun hk => hn (hs i hk))⟩
theorem Only.of_below {w w' : World} (h : Below w.heap.size w w') (S : Nat → Prop) : Only S w w' := ⟨h.os, h.tape, h.output, h.size, fun i hi _ => h.block i hi⟩
theorem Only.below {S : Nat → Prop} {w w' : World} (h : Only S w w') {B : Nat} (hB : B ≤ w.heap.size) (hs : ∀ k, S k → B ≤ k) : Below B w w' :=
  ⟨h.os, h.tape, h.output, h.size, fun i hi => h.block i (by omega) (fun hk => by have := hs i hk; omega)⟩
theorem Only.alloc (S : Nat → Prop) (w : World) (o : Obj) : Only S w (w.alloc o) := Only.of_below ((Below.refl _ _).alloc (Nat.le_refl _) o) S
theorem Only.drew {S : Nat → Prop} {w w' : World} (h : Only S w w') : Only S w w'.drew := ⟨h.os, h.tape, h.output, h.size, h.block⟩
theorem Only.drewN {S : Nat → Prop} {w w' : World} (h : Only S w w') (n : Nat) : Only S w (w'.drewN n) := ⟨h.os, h.tape, h.output, h.size, h.block⟩
theorem Only.setCell {S : Nat → Prop} (w : World) {a : Addr} (ha : S a.block) (v : Value) : Only S w (w.setCell a v) :=
  ⟨rfl, rfl, rfl, by simp [World.setCell], fun i _ hn => Below.heap_setCell _ _ _ _ (fun e => hn (e ▸ ha))⟩
theorem info_u8 : (Tryd.prog.info? 5).map (fun i => (i.zero, i.size, i.bytes)) = some (some (.int .u8 0), 1, 1) := by kernel_rfl
theorem info_str : (Tryd.prog.info? 9).map (fun i => (i.zero, i.size, i.bytes)) = some (some (.string ByteArray.empty), 1, 16) := by kernel_rfl
/-- Bytes that are read. -/
abbrev ReadB (w : World) (A : Option Addr) (n : Nat) (l : List Int) : Prop := Kd.C (Kd.int .u8) w A n l
theorem own_only {α : Type} {d : Kd α} {e : Nat} {w w' : World} {base : Nat} {ok S : Nat → Prop} {v : Value} {xs : List α} (h : d.R e w base ok v xs) (ho : Only S w w') (hs : ∀ k, ok k → ¬ S k) : d.R e w' base ok v xs :=
  Kd.R_step h fun k hk hl => ho.block k hl (hs k hk)
theorem read_below {α : Type} {d : Kd α} {w w' : World} {A : Option Addr} {n : Nat} {xs : List α} (h : d.C w A n xs) (hb : Below w.heap.size w w') : d.C w' A n xs := Kd.C_below h hb
theorem conv_read {W : World} {A : Option Addr} {n c : Nat} {l : List Int} (h : ReadB W A n l) : (convert 25 9 (.slice A n c)).run Tryd.prog W = .ok (.string (strOfNums l)) W := Kd.C_string Tryd.underlying25 Tryd.underlying5 Tryd.underlying9 h
theorem next_below {w w1 w2 : World} {S : Nat → Prop} (h : Below w.heap.size w w1) (ho : Only S w1 w2) (hs : ∀ k, S k → w.heap.size ≤ k) : Below w.heap.size w w2 := h.trans (ho.below h.size hs)
theorem next_new {w w1 w2 : World} (h : Below w.heap.size w w1) (hb : Below w1.heap.size w1 w2) : Below w.heap.size w w2 := h.trans (hb.mono h.size)
theorem reads_nil (w : World) : ReadB w none 0 [] := ⟨rfl, by decide, fun h => by simp at h⟩
/-- A cut of a slice of bytes. -/
theorem cut_to (W : World) (A : Option Addr) (n c m : Nat) (hm : m ≤ c) : (Instr.sliceAt 25 (.slice A n c) none (some (.int .i64 (m : Int))) none).run Tryd.prog W = .ok (.slice A m c) W := by
  have ht : Tryd.prog.underlying 25 = some (.slice 5) := Tryd.underlying25
  have hel : Tryd.prog.elem 25 = 5 := by simp [Program.elem, ht]
  have hu : Tryd.prog.underlying 25 = some (.slice (Tryd.prog.elem 25)) := by rw [hel]; exact ht
  obtain ⟨ie, hie, hzz⟩ := Option.map_eq_some_iff.1 info_u8
  simp only [Prod.mk.injEq] at hzz
  obtain ⟨hz, hs, _⟩ := hzz
  rw [run_sliceAt_slice W _ _ _ _ _ hu, run_slice_h W _ _ _ _ hu .i64 (m : Int) (by omega) (by omega), hel]
  simp [sizeOf, typeInfo, hie, hs, sliced, Result.andThen]
  try (intro _; cases A <;> simp [Addr.add])
theorem cut_from (W : World) (A : Option Addr) (n c m : Nat) (hm : m ≤ n) : (Instr.sliceAt 25 (.slice A n c) (some (.int .i64 (m : Int))) none none).run Tryd.prog W = .ok (.slice (if c = m then A else A.map (·.add (m * 1))) (n - m) (c - m)) W := by
  have ht : Tryd.prog.underlying 25 = some (.slice 5) := Tryd.underlying25
  have hel : Tryd.prog.elem 25 = 5 := by simp [Program.elem, ht]
  have hu : Tryd.prog.underlying 25 = some (.slice (Tryd.prog.elem 25)) := by rw [hel]; exact ht
  obtain ⟨ie, hie, hzz⟩ := Option.map_eq_some_iff.1 info_u8
  simp only [Prod.mk.injEq] at hzz
  obtain ⟨hz, hs, _⟩ := hzz
  rw [run_sliceAt_slice W _ _ _ _ _ hu, run_slice_l W _ _ _ _ hu .i64 (m : Int) (by omega) (by omega), hel]
  simp [sizeOf, typeInfo, hie, hs, sliced, Result.andThen]
end Go.Proofs.YtllnleokjcimhaaDoor.En
/-
How a record's bytes are read, as plain data. No program in sight.
-/
namespace Go.Proofs.YtllnleokjcimhaaDoor.En
open Go.Proofs.YtllnleokjcimhaaDoorW.PrintWords
set_option linter.unusedVariables false
set_option linter.unusedSimpArgs false
/-- What is left to be read; has anything lacked? -/
structure Rd where
  b : List Int
  bad : Bool
def Rd.bytes (r : Rd) (n : Nat) : List Int × Rd := if r.bad = true ∨ r.b.length < n then ([], ⟨r.b, true⟩) else (r.b.take n, ⟨r.b.drop n, false⟩)
/-- Bytes as a number. -/
def big (l : List Int) : Int := l.foldl (fun n c => n * 256 + c) 0
def Rd.get (r : Rd) (k : Nat) : Int × Rd := (big (r.bytes k).1, (r.bytes k).2)
def Rd.textB (r : Rd) : List Int × Rd := (r.get 2).2.bytes (r.get 2).1.toNat
def Rd.text (r : Rd) : ByteArray × Rd := (strOfNums r.textB.1, r.textB.2)
def Rd.texts : Nat → Rd → List ByteArray × Rd
  | 0, r => ([], r)
  | n + 1, r => if r.bad = true then ([], r) else (r.text.1 :: (Rd.texts n r.text.2).1, (Rd.texts n r.text.2).2)
def Rd.field (r : Rd) : (ByteArray × ByteArray) × Rd := ((r.text.1, r.text.2.text.1), r.text.2.text.2)
def Rd.fields : Nat → Rd → List (ByteArray × ByteArray) × Rd
  | 0, r => ([], r)
  | n + 1, r => if r.bad = true then ([], r) else (r.field.1 :: (Rd.fields n r.field.2).1, (Rd.fields n r.field.2).2)
/-- An entry. -/
structure PE where
  key : ByteArray
  second : ByteArray
  names : List ByteArray
  asked : Int
  came : Int
  status : Int
  fields : List (ByteArray × ByteArray)
  body : List Int
  gen : Int
def Rd.secondOf (r : Rd) (v : Int) : ByteArray × Rd := if v = 3 then r.text else ((⟨#[]⟩ : ByteArray), r)
def Rd.namesOf (r : Rd) (v : Int) : List ByteArray × Rd := if v = 3 then Rd.texts (r.get 2).1.toNat (r.get 2).2 else ([], r)
def Rd.genOf (r : Rd) (v : Int) : Int × Rd := if 1 < v then r.get 6 else (1, r)
def Rd.fieldsOf (r : Rd) : List (ByteArray × ByteArray) × Rd := Rd.fields (r.get 2).1.toNat (r.get 2).2
/-- An entry of a version. -/
def Rd.entry (r : Rd) (v : Int) : PE × Rd :=
  let s := r.secondOf v
  let n := s.2.namesOf v
  let g := n.2.genOf v
  let k := g.2.text
  let a := k.2.get 6
  let c := a.2.get 6
  let t := c.2.get 6
  let f := t.2.fieldsOf
  let b := f.2.text
  (⟨k.1, s.1, n.1, a.1, c.1, t.1, f.1, bytesOf b.1, g.1⟩, b.2)
/-- From the key on. -/
def tailE (g : Rd) (sec : ByteArray) (names : List ByteArray) (gen : Int) : PE × Rd :=
  let k := g.text
  let a := k.2.get 6
  let c := a.2.get 6
  let t := c.2.get 6
  let f := t.2.fieldsOf
  let b := f.2.text
  (⟨k.1, sec, names, a.1, c.1, t.1, f.1, bytesOf b.1, gen⟩, b.2)
theorem entry_one (r : Rd) : r.entry 1 = tailE r (⟨#[]⟩ : ByteArray) [] 1 := by
  unfold Rd.entry Rd.secondOf Rd.namesOf Rd.genOf tailE
  simp
theorem entry_two (r : Rd) : r.entry 2 = tailE (r.get 6).2 (⟨#[]⟩ : ByteArray) [] (r.get 6).1 := by
  unfold Rd.entry Rd.secondOf Rd.namesOf Rd.genOf tailE
  simp
theorem entry_three (r : Rd) : r.entry 3 = tailE ((Rd.texts (r.text.2.get 2).1.toNat (r.text.2.get 2).2).2.get 6).2 r.text.1 (Rd.texts (r.text.2.get 2).1.toNat (r.text.2.get 2).2).1 ((Rd.texts (r.text.2.get 2).1.toNat (r.text.2.get 2).2).2.get 6).1 := by
  unfold Rd.entry Rd.secondOf Rd.namesOf Rd.genOf tailE
  simp
theorem big_bound : ∀ (l : List Int), (∀ x ∈ l, 0 ≤ x ∧ x < 256) → 0 ≤ big l ∧ big l < 256 ^ l.length := by
  have h : ∀ (l : List Int) (n : Int) (m : Nat), (∀ x ∈ l, 0 ≤ x ∧ x < 256) → 0 ≤ n → n < 256 ^ m → 0 ≤ l.foldl (fun n c => n * 256 + c) n ∧ l.foldl (fun n c => n * 256 + c) n < 256 ^ (m + l.length) := by
    intro l
    induction l with
    | nil => intro n m _ h0 h1; exact ⟨h0, h1⟩
    | cons x l ih =>
      intro n m hx h0 h1
      have h2 := hx x (List.mem_cons_self ..)
      have h3 := ih (n * 256 + x) (m + 1) (fun y hy => hx y (List.mem_cons_of_mem _ hy)) (by omega) (by rw [Int.pow_succ]; omega)
      rw [List.length_cons, show m + (l.length + 1) = m + 1 + l.length from by omega]
      exact h3
  intro l hl
  have := h l 0 0 hl (by omega) (by simp)
  simpa [big] using this
end Go.Proofs.YtllnleokjcimhaaDoor.En
/-
What the reader's small functions do: bytes, numbers, texts.
-/
namespace Go.Proofs.YtllnleokjcimhaaDoor.En
open Go.RowKit Go.Maps Go.Proofs.YtllnleokjcimhaaDoorW.PrintWords Go.Proofs.YtllnleokjcimhaaDoorW.PrintLast Go.Proofs.YtllnleokjcimhaaDoorW.PrintMore
set_option linter.unusedVariables false
set_option linter.unusedSimpArgs false
/-- A reader in memory: what is left lies where it lay. -/
structure IsRd (w0 w : World) (p : Nat) (r : Rd) : Prop where
  at_ : ∃ A c, w.heap[p]? = some (.cells #[.slice A r.b.length c, .bool r.bad] 64 (0, 0)) ∧ r.b.length ≤ c ∧ ReadB w0 A r.b.length r.b
  rng : ∀ x ∈ r.b, 0 ≤ x ∧ x < 256
  bl : Below w0.heap.size w0 w
  lp : w0.heap.size ≤ p
/-- What a call on the reader leaves. -/
abbrev Turn (p : Nat) (w w' : World) : Prop := Only (fun k => k = p) w w'
section
variable {w0 w w' : World} {p : Nat} {r : Rd}
theorem IsRd.lt (h : IsRd w0 w p r) : p < w.heap.size := by obtain ⟨A, c, h1, _⟩ := h.at_; exact (Array.getElem?_eq_some_iff.1 h1).1
theorem IsRd.new (h : IsRd w0 w p r) (hb : Below w.heap.size w w') : IsRd w0 w' p r := by
  have hl := h.lt
  obtain ⟨A, c, h1, h2⟩ := h.at_
  exact ⟨⟨A, c, (hb.block p hl).trans h1, h2⟩, h.rng, next_new h.bl hb, h.lp⟩
theorem IsRd.other (h : IsRd w0 w p r) {S : Nat → Prop} (ho : Only S w w') (hs : ∀ k, S k → w0.heap.size ≤ k ∧ k ≠ p) : IsRd w0 w' p r := by
  have hl := h.lt
  obtain ⟨A, c, h1, h2⟩ := h.at_
  exact ⟨⟨A, c, (ho.block p hl (fun hk => (hs p hk).2 rfl)).trans h1, h2⟩, h.rng, next_below h.bl ho (fun k hk => (hs k hk).1), h.lp⟩
theorem Turn.below (h : IsRd w0 w p r) (ht : Turn p w w') : Below w0.heap.size w0 w' := next_below h.bl ht (fun k hk => hk ▸ h.lp)
theorem IsRd.set (h : IsRd w0 w p r) (A : Option Addr) (n c : Nat) (bad : Bool) (b : List Int) (hn : n = b.length) (hc : n ≤ c) (hr : ReadB w0 A n b) (hb : ∀ x ∈ b, 0 ≤ x ∧ x < 256) :
    IsRd w0 ((w.setCell ⟨p, 1, none⟩ (.bool bad)).setCell ⟨p, 0, none⟩ (.slice A n c)) p ⟨b, bad⟩ := by
  subst hn
  obtain ⟨A0, c0, h1, h2⟩ := h.at_
  refine ⟨⟨A, c, ?_, hc, hr⟩, hb, (h.bl.setCell h.lp _).setCell h.lp _, h.lp⟩
  rw [heap_setCell_same _ p 0 _ _ _ (heap_setCell_same w p 1 _ _ _ h1)]; rfl
theorem IsRd.setBad (h : IsRd w0 w p r) (bad : Bool) : IsRd w0 (w.setCell ⟨p, 1, none⟩ (.bool bad)) p ⟨r.b, bad⟩ := by
  obtain ⟨A0, c0, h1, h2⟩ := h.at_
  refine ⟨⟨A0, c0, ?_, h2⟩, h.rng, h.bl.setCell h.lp _, h.lp⟩
  rw [heap_setCell_same w p 1 _ _ _ h1]; rfl
set_option maxHeartbeats 1000000 in
set_option maxRecDepth 100000 in
theorem bytes_any (h : IsRd w0 w p r) (n : Nat) :
    Calls Tryd.prog 53 #[.pointer (some ⟨p, 0, none⟩), .int .i64 (n : Int)] w fun e w' => ∃ A c, e = .returned (.slice A (r.bytes n).1.length c) ∧ (r.bytes n).1.length ≤ c ∧ ReadB w0 A (r.bytes n).1.length (r.bytes n).1 ∧ (∀ x ∈ (r.bytes n).1, 0 ≤ x ∧ x < 256) ∧ IsRd w0 w' p (r.bytes n).2 ∧ Turn p w w' := by
  obtain ⟨A, c, h1, h2, h3⟩ := h.at_
  have c0 : w.cell? ⟨p, 0, none⟩ = some (.slice A r.b.length c) := by rw [cell_of_row _ _ _ _ _ _ h1]; rfl
  have c1 : w.cell? ⟨p, 1, none⟩ = some (.bool r.bad) := by rw [cell_of_row _ _ _ _ _ _ h1]; rfl
  have f0 : w.frozen? ⟨p, 0, none⟩ = false := frozen_of_row _ _ _ _ _ h1
  have f1 : w.frozen? ⟨p, 1, none⟩ = false := frozen_of_row _ _ _ _ _ h1
  unfold Rd.bytes
  by_cases hb : r.bad = true ∨ r.b.length < n
  · rw [if_pos hb]
    have H := Fact.mk (h.setBad true)
    rcases hb with hb | hb
    · rw [hb] at c1
      clear h h1 h2 h3 hb
      generalize r.b.length = bl at *
      go_enter Tryd.func53, Tryd.ntmps53
      go_wp2
      go_ret
      exact ⟨none, 0, rfl, Nat.le_refl _, reads_nil _, (fun x hx => by cases hx), H.out, Only.setCell (S := fun k => k = p) w rfl _⟩
    · have hb2 : (r.b.length : Int) < (n : Int) := by omega
      clear h h1 h2 h3 hb
      generalize r.b.length = bl at *
      cases hbad : r.bad with
      | true =>
        rw [hbad] at c1
        go_enter Tryd.func53, Tryd.ntmps53
        go_wp2
        go_ret
        exact ⟨none, 0, rfl, Nat.le_refl _, reads_nil _, (fun x hx => by cases hx), H.out, Only.setCell (S := fun k => k = p) w rfl _⟩
      | false =>
        rw [hbad] at c1
        go_enter Tryd.func53, Tryd.ntmps53
        go_wp2
        go_ret
        exact ⟨none, 0, rfl, Nat.le_refl _, reads_nil _, (fun x hx => by cases hx), H.out, Only.setCell (S := fun k => k = p) w rfl _⟩
  · rw [if_neg hb]
    have hbad : r.bad = false := by cases hq : r.bad with
      | false => rfl
      | true => exact absurd (.inl hq) hb
    have hn : n ≤ r.b.length := Nat.le_of_not_lt (fun h => hb (.inr h))
    rw [hbad] at c1
    have hn2 : ¬ ((r.b.length : Int) < (n : Int)) := by omega
    have hnc : n ≤ c := by omega
    have htl : (r.b.take n).length = n := by rw [List.length_take]; omega
    have hdl : (r.b.drop n).length = r.b.length - n := List.length_drop
    have H := Fact.mk (h.set (if c = n then A else A.map (·.add (n * 1))) (r.b.length - n) (c - n) false (r.b.drop n) hdl.symm (by omega) (by
      have := Kd.C_drop (m := n) h3 hn h2
      rw [hdl] at this; exact this) (fun x hx => h.rng x (List.mem_of_mem_drop hx)))
    have HT := Fact.mk (Kd.C_take h3 hn)
    have HR := Fact.mk h.rng
    rw [htl] at HT ⊢
    have k1 := fun W => cut_to W A r.b.length c n hnc
    have k2 := fun W => cut_from W A r.b.length c n hn
    clear h h1 h2 h3 hb hbad htl hdl
    generalize hAd : (if c = n then A else A.map (·.add (n * 1))) = Ad at *
    generalize r.b.length = bl at *
    go_enter Tryd.func53, Tryd.ntmps53
    go_wp2
    go_ret
    exact ⟨A, c, rfl, hnc, HT.out, (fun x hx => HR.out x (List.mem_of_mem_take hx)), H.out, (Only.setCell (S := fun k => k = p) w rfl _).trans (Only.setCell (S := fun k => k = p) _ rfl _)⟩
theorem bytes_len (r : Rd) (n : Nat) : (r.bytes n).1.length ≤ n := by
  unfold Rd.bytes
  split
  · simp
  · simp; omega
theorem byte_cell {w : World} {A : Option Addr} {n : Nat} {l : List Int} (h : ReadB w A n l) {j : Nat} (hj : j < n) : ∃ ad, A = some ad ∧ w.cell? (ad.add j) = some (.int .u8 (l.getD j 0)) := by
  have hl : l.length = n := h.1
  obtain ⟨ad, e, hc⟩ := h.2.2 (by omega)
  obtain ⟨c, h1, h2, h3⟩ := hc j l[j] (List.getElem?_eq_getElem (by omega))
  refine ⟨ad, e, ?_⟩
  have h4 : l.getD j 0 = l[j] := by rw [List.getD_eq_getElem?_getD, List.getElem?_eq_getElem (by omega)]; rfl
  have := h3 0 (.int .u8 l[j]) (by rw [show c = [.int .u8 l[j]] from h2]; rfl)
  rw [h4]
  simpa [Kd.int, Kd.scalar] using this
theorem or_low (x y : Int) (hx : 0 ≤ x ∧ x < 1099511627776) (hy : 0 ≤ y ∧ y < 256) : bits BinOp.or IntKind.i64 (x * 256) y = x * 256 + y := by
  obtain ⟨m, rfl⟩ := Int.eq_ofNat_of_zero_le hx.1
  obtain ⟨n, rfl⟩ := Int.eq_ofNat_of_zero_le hy.1
  have e : ((m : Int) * 256) = ((m * 256 : Nat) : Int) := by omega
  have h1 : m * 256 ||| n = m * 256 + n := by
    rw [show m * 256 = m <<< 8 from by rw [Nat.shiftLeft_eq], ← Nat.shiftLeft_add_eq_or_of_lt (by omega)]
  rw [e]
  show IntKind.i64.wrap ((BitVec.ofInt 64 ((m * 256 : Nat) : Int) ||| BitVec.ofInt 64 (n : Int)).toNat : Int) = _
  have e1 : ∀ a : Nat, a < 18446744073709551616 → (BitVec.ofInt 64 (a : Int)).toNat = a := fun a ha => by
    rw [BitVec.ofInt_natCast, BitVec.toNat_ofNat]; exact Nat.mod_eq_of_lt (by omega)
  rw [BitVec.toNat_or, e1 _ (by omega), e1 _ (by omega), h1, IntWalk.i64_in _ (by omega)]
  omega
theorem pow256 (j : Nat) (hj : j ≤ 6) : (256 : Int) ^ j ≤ 281474976710656 := by
  have : j = 0 ∨ j = 1 ∨ j = 2 ∨ j = 3 ∨ j = 4 ∨ j = 5 ∨ j = 6 := by omega
  rcases this with rfl | rfl | rfl | rfl | rfl | rfl | rfl <;> decide
theorem pow256' (j : Nat) (hj : j ≤ 5) : (256 : Int) ^ j ≤ 1099511627776 := by
  have : j = 0 ∨ j = 1 ∨ j = 2 ∨ j = 3 ∨ j = 4 ∨ j = 5 := by omega
  rcases this with rfl | rfl | rfl | rfl | rfl | rfl <;> decide
theorem big_step (l : List Int) {j : Nat} (hj : j < l.length) : big (l.take (j + 1)) = big (l.take j) * 256 + l.getD j 0 := by
  have h4 : l.getD j 0 = l[j] := by rw [List.getD_eq_getElem?_getD, List.getElem?_eq_getElem hj]; rfl
  rw [List.take_succ_eq_append_getElem hj, h4]
  unfold big
  rw [List.foldl_append]; rfl
set_option maxHeartbeats 1000000 in
set_option maxRecDepth 100000 in
theorem get_any (h : IsRd w0 w p r) (n : Nat) (hn : n ≤ 6) :
    Calls Tryd.prog 36 #[.pointer (some ⟨p, 0, none⟩), .int .i64 (n : Int)] w fun e w' => e = .returned (.int .i64 (r.get n).1) ∧ 0 ≤ (r.get n).1 ∧ (r.get n).1 < 281474976710656 ∧ IsRd w0 w' p (r.get n).2 ∧ Turn p w w' := by
  have HB := Fact.mk (bytes_any h n)
  have HL := Fact.mk (bytes_len r n)
  clear h
  unfold Rd.get
  generalize (r.bytes n).1 = x at *
  generalize (r.bytes n).2 = r2 at *
  go_enter Tryd.func36, Tryd.ntmps36
  go_wp2_with fail
  refine HB.out.mono ?_
  rintro e w1 ⟨A, c, rfl, hc, hr, hrng, h1, t1⟩
  have HR := Fact.mk (Kd.C_below hr h1.bl)
  have HG := Fact.mk hrng
  have H1 := Fact.mk (And.intro h1 t1)
  clear hr hrng h1 t1 HB
  have hlen : x.length ≤ 6 := Nat.le_trans HL.out hn
  go_wp2_with fail
  go_loopw [5, 12] (fun v5 v12 wr => ∃ j : Nat, v12 = .int .i64 (j : Int) ∧ v5 = .int .i64 (big (x.take j)) ∧ j ≤ x.length ∧ wr = w1) (fun _ v _ => x.length - (intOf v).toNat)
  case atStart => exact ⟨0, rfl, rfl, Nat.zero_le _, rfl⟩
  case round =>
    obtain ⟨j, rfl, rfl, hj, rfl⟩ := hrel
    have hbd := big_bound (x.take j) (fun y hy => HG.out y (List.mem_of_mem_take hy))
    rw [show (x.take j).length = j from by rw [List.length_take]; omega] at hbd
    by_cases hlt : j < x.length
    · have hlt2 : (j : Int) < (x.length : Int) := by omega
      obtain ⟨ad, rfl, hcell⟩ := byte_cell HR.out hlt
      have hst := big_step x hlt
      have hx : 0 ≤ x.getD j 0 ∧ x.getD j 0 < 256 := by
        have h4 : x.getD j 0 = x[j] := by rw [List.getD_eq_getElem?_getD, List.getElem?_eq_getElem hlt]; rfl
        rw [h4]; exact HG.out _ (List.getElem_mem hlt)
      have HS := Fact.mk hst
      clear hst
      generalize x.getD j 0 = y at *
      generalize hB : big (x.take j) = bj at *
      have hbj : bj < 1099511627776 := by
        have h5 := pow256' j (by omega)
        omega
      have hor := or_low bj y ⟨hbd.1, hbj⟩ hx
      have hbj0 := hbd.1
      clear hbd hB
      go_wp2_with fail
      exact ⟨⟨j + 1, by go_num, by rw [HS.out], by omega, trivial⟩, by simp [intOf]; omega⟩
    · have he : j = x.length := by omega
      subst he
      have hlt2 : ¬ ((x.length : Int) < (x.length : Int)) := by omega
      have hp6 := pow256 x.length hlen
      rw [List.take_length] at hbd ⊢
      have hb1 := hbd.1
      have hb2 : big x < 281474976710656 := by omega
      clear hbd hp6
      go_wp2_with fail
      go_ret
      first | exact ⟨rfl, H1.out⟩ | exact ⟨rfl, hb1, hb2, H1.out⟩
theorem bytes_rng {r : Rd} (h : ∀ x ∈ r.b, 0 ≤ x ∧ x < 256) (n : Nat) : ∀ x ∈ (r.bytes n).1, 0 ≤ x ∧ x < 256 := by
  unfold Rd.bytes
  split
  · intro x hx; cases hx
  · intro x hx; exact h x (List.mem_of_mem_take hx)
theorem get_nonneg {r : Rd} (h : ∀ x ∈ r.b, 0 ≤ x ∧ x < 256) (n : Nat) : 0 ≤ (r.get n).1 := (big_bound _ (bytes_rng h n)).1
set_option maxRecDepth 100000 in
theorem text_any (h : IsRd w0 w p r) :
    Calls Tryd.prog 54 #[.pointer (some ⟨p, 0, none⟩)] w fun e w' => e = .returned (.string r.text.1) ∧ IsRd w0 w' p r.text.2 ∧ Turn p w w' := by
  have HG := Fact.mk (get_any h 2 (by omega))
  obtain ⟨m, hm⟩ := Int.eq_ofNat_of_zero_le (get_nonneg h.rng 2)
  clear h
  unfold Rd.text Rd.textB
  rw [hm] at HG ⊢
  rw [Int.toNat_natCast]
  clear hm
  generalize (r.get 2).2 = r2 at *
  go_enter Tryd.func54, Tryd.ntmps54
  go_wp2_with fail
  refine HG.out.mono ?_
  rintro e w1 ⟨rfl, hn0, hn1, h1, t1⟩
  have H1 := Fact.mk h1
  have T1 := Fact.mk t1
  clear h1 t1 HG hn0
  go_wp2_with fail
  refine (bytes_any H1.out m).mono ?_
  rintro e w2 ⟨A, c, rfl, hc, hr, hrng, h2, t2⟩
  have H2 := Fact.mk h2
  have T2 := Fact.mk (T1.out.trans t2)
  have hcv := conv_read (c := c) (Kd.C_below hr h2.bl)
  clear hr hrng h2 t2 hc H1 T1
  go_wp2_with fail
  go_ret
  exact ⟨rfl, H2.out, T2.out⟩
set_option maxRecDepth 100000 in
theorem field_any (h : IsRd w0 w p r) :
    Calls Tryd.prog 57 #[.pointer (some ⟨p, 0, none⟩)] w fun e w' => e = .returned (.agg #[.string r.field.1.1, .string r.field.1.2]) ∧ IsRd w0 w' p r.field.2 ∧ Turn p w w' := by
  have HH := Fact.mk h
  unfold Rd.field
  clear h
  go_enter Tryd.func57, Tryd.ntmps57
  go_wp2_with fail
  have H0 := Fact.mk (HH.out.new ((Below.refl _ _).alloc (Nat.le_refl _) (.cells #[.string ⟨#[]⟩, .string ⟨#[]⟩] 53)))
  have T0 : Fact (Turn p w (w.alloc (.cells #[.string ⟨#[]⟩, .string ⟨#[]⟩] 53))) := ⟨Only.alloc _ _ _⟩
  have N0 : Fact ((w.alloc (.cells #[.string ⟨#[]⟩, .string ⟨#[]⟩] 53)).heap[w.heap.size]? = some (.cells #[.string ⟨#[]⟩, .string ⟨#[]⟩] 53 (0, 0)) ∧ w.heap.size ≠ p ∧ w.heap.size < (w.alloc (.cells #[.string ⟨#[]⟩, .string ⟨#[]⟩] 53)).heap.size) := ⟨heap_alloc_new w _, by have := HH.out.lt; omega, by simp⟩
  have L0 : Fact (w0.heap.size ≤ w.heap.size) := ⟨HH.out.bl.size⟩
  clear HH
  generalize (w.alloc (.cells #[.string ⟨#[]⟩, .string ⟨#[]⟩] 53)) = wa at *
  refine (text_any H0.out).mono ?_
  rintro e w1 ⟨rfl, h1, t1⟩
  have H1 := Fact.mk h1
  have T1 := Fact.mk (T0.out.trans t1)
  have N1 : Fact (w1.heap[w.heap.size]? = some (.cells #[.string ⟨#[]⟩, .string ⟨#[]⟩] 53 (0, 0)) ∧ w.heap.size ≠ p ∧ w.heap.size < w1.heap.size) := ⟨(t1.block _ N0.out.2.2 N0.out.2.1).trans N0.out.1, N0.out.2.1, Nat.lt_of_lt_of_le N0.out.2.2 t1.size⟩
  clear h1 t1 H0 T0 N0
  clear wa
  go_wp2_with fail
  refine (text_any H1.out).mono ?_
  rintro e w2 ⟨rfl, h2, t2⟩
  have H2 := Fact.mk h2
  have T2 := Fact.mk (T1.out.trans t2)
  have N2 : Fact (w2.heap[w.heap.size]? = some (.cells #[.string ⟨#[]⟩, .string ⟨#[]⟩] 53 (0, 0)) ∧ w.heap.size ≠ p ∧ w.heap.size < w2.heap.size) := ⟨(t2.block _ N1.out.2.2 N1.out.2.1).trans N1.out.1, N1.out.2.1, Nat.lt_of_lt_of_le N1.out.2.2 t2.size⟩
  clear h2 t2 H1 T1 N1
  have q0 : w2.cell? ⟨w.heap.size, 0, none⟩ = some (.string ⟨#[]⟩) := by rw [cell_of_row _ _ _ _ _ _ N2.out.1]; rfl
  have q1 : w2.cell? ⟨w.heap.size, 1, none⟩ = some (.string ⟨#[]⟩) := by rw [cell_of_row _ _ _ _ _ _ N2.out.1]; rfl
  have g0 : w2.frozen? ⟨w.heap.size, 0, none⟩ = false := frozen_of_row _ _ _ _ _ N2.out.1
  have g1 : w2.frozen? ⟨w.heap.size, 1, none⟩ = false := frozen_of_row _ _ _ _ _ N2.out.1
  clear w1
  go_wp2_with fail
  have hh : ((w2.setCell ⟨w.heap.size, 0, none⟩ (.string r.text.1)).setCell ⟨w.heap.size, 1, none⟩ (.string r.text.2.text.1)).heap[w.heap.size]? = some (.cells #[.string r.text.1, .string r.text.2.text.1] 53 (0, 0)) := by
    rw [heap_setCell_same _ w.heap.size 1 _ _ _ (heap_setCell_same w2 w.heap.size 0 _ _ _ N2.out.1)]; rfl
  refine bodyPost_ret (results_cell_row rfl _ _ w.heap.size 53 #[.string r.text.1, .string r.text.2.text.1] (0, 0) _ rfl hh Tryd.underlying53 rfl (by kernel_rfl)) rfl ?_
  have hO : Only (fun k => k = w.heap.size) w2 ((w2.setCell ⟨w.heap.size, 0, none⟩ (.string r.text.1)).setCell ⟨w.heap.size, 1, none⟩ (.string r.text.2.text.1)) := (Only.setCell (S := fun k => k = w.heap.size) w2 rfl _).trans (Only.setCell (S := fun k => k = w.heap.size) _ rfl _)
  exact ⟨rfl, H2.out.other hO (fun k hk => by subst hk; exact ⟨L0.out, N2.out.2.1⟩), T2.out.then_ hO (fun k hk => .inr (by subst hk; exact Nat.le_refl _))⟩
end
end Go.Proofs.YtllnleokjcimhaaDoor.En
/-
What the reader's lists do: so many texts, or fields, as are told.
-/
namespace Go.Proofs.YtllnleokjcimhaaDoor.En
open Go.RowKit Go.Maps Go.Proofs.YtllnleokjcimhaaDoorW.PrintWords Go.Proofs.YtllnleokjcimhaaDoorW.PrintLast Go.Proofs.YtllnleokjcimhaaDoorW.PrintMore
set_option linter.unusedVariables false
set_option linter.unusedSimpArgs false
theorem Only.of_base {w w' : World} {B : Nat} (h : Below B w w') : Only (fun k => B ≤ k) w w' := ⟨h.os, h.tape, h.output, h.size, fun k _ hk => h.block k (Nat.lt_of_not_le hk)⟩
theorem IsRd.base {w0 w w' : World} {p : Nat} {r : Rd} {B : Nat} (h : IsRd w0 w p r) (hb : Below B w w') (hp : p < B) : IsRd w0 w' p r :=
  h.other (Only.of_base hb) (fun k hk => ⟨by have := h.lp; omega, by omega⟩)
theorem get_lt {r : Rd} (h : ∀ x ∈ r.b, 0 ≤ x ∧ x < 256) : (r.get 2).1 < 65536 := by
  have h1 := (big_bound _ (bytes_rng h 2)).2
  have h2 := bytes_len r 2
  have h3 : (256 : Int) ^ (r.bytes 2).1.length ≤ 65536 := by
    have : (r.bytes 2).1.length = 0 ∨ (r.bytes 2).1.length = 1 ∨ (r.bytes 2).1.length = 2 := by omega
    rcases this with h | h | h <;> rw [h] <;> decide
  show big (r.bytes 2).1 < 65536
  omega
theorem texts_stop (m : Nat) {r : Rd} (h : r.bad = true) : Rd.texts m r = ([], r) := by
  cases m with
  | zero => rfl
  | succ m => unfold Rd.texts; rw [if_pos h]
theorem texts_go (m : Nat) {r : Rd} (h : r.bad = false) : Rd.texts (m + 1) r = (r.text.1 :: (Rd.texts m r.text.2).1, (Rd.texts m r.text.2).2) := by
  rw [Rd.texts, if_neg (by rw [h]; decide)]
/-- A field as a row has it. -/
def fdK : Kd (ByteArray × ByteArray) := Kd.pair Kd.string Kd.string
theorem info_fd : (Tryd.prog.info? 53).map (fun i => (i.zero, i.size, i.bytes)) = some (some (.agg #[.string ⟨#[]⟩, .string ⟨#[]⟩]), 2, 32) := by kernel_rfl
theorem fields_stop (m : Nat) {r : Rd} (h : r.bad = true) : Rd.fields m r = ([], r) := by
  cases m with
  | zero => rfl
  | succ m => unfold Rd.fields; rw [if_pos h]
theorem fields_go (m : Nat) {r : Rd} (h : r.bad = false) : Rd.fields (m + 1) r = (r.field.1 :: (Rd.fields m r.field.2).1, (Rd.fields m r.field.2).2) := by
  rw [Rd.fields, if_neg (by rw [h]; decide)]
section
variable {w0 w w' : World} {p : Nat} {r : Rd}
theorem IsRd.c0 (h : IsRd w0 w p r) : ∃ A c, w.cell? ⟨p, 0, none⟩ = some (.slice A r.b.length c) := by obtain ⟨A, c, h1, _⟩ := h.at_; exact ⟨A, c, by rw [cell_of_row _ _ _ _ _ _ h1]; rfl⟩
theorem IsRd.c1 (h : IsRd w0 w p r) : w.cell? ⟨p, 1, none⟩ = some (.bool r.bad) := by obtain ⟨A, c, h1, _⟩ := h.at_; rw [cell_of_row _ _ _ _ _ _ h1]; rfl
set_option maxHeartbeats 1000000 in
set_option maxRecDepth 100000 in
theorem texts_any (h : IsRd w0 w p r) :
    Calls Tryd.prog 55 #[.pointer (some ⟨p, 0, none⟩), .func (.func 54) #[.pointer (some ⟨p, 0, none⟩)] #[]] w fun e w' => ∃ v, e = .returned v ∧ Kd.R Kd.string 9 w' w.heap.size (fun k => w.heap.size ≤ k) v (Rd.texts (r.get 2).1.toNat (r.get 2).2).1 ∧ IsRd w0 w' p (Rd.texts (r.get 2).1.toNat (r.get 2).2).2 ∧ Turn p w w' := by
  have HG := Fact.mk (get_any h 2 (by omega))
  have HP := Fact.mk h.lt
  obtain ⟨m, hm⟩ := Int.eq_ofNat_of_zero_le (get_nonneg h.rng 2)
  have hm6 := get_lt h.rng
  rw [hm] at hm6
  clear h
  rw [hm] at HG ⊢
  rw [Int.toNat_natCast]
  clear hm
  generalize (r.get 2).2 = r2 at *
  have eg := enters_ Tryd.func54 (by kernel_rfl) rfl
  go_enter Tryd.func55, Tryd.ntmps55
  go_wp2_with fail
  refine HG.out.mono ?_
  rintro e w1 ⟨rfl, hn0, hn1, h1, t1⟩
  have H1 := Fact.mk h1
  have T1 := Fact.mk t1
  have I1 : Fact (∃ l, (Rd.texts m r2) = (l ++ (Rd.texts m r2).1, (Rd.texts m r2).2) ∧ l.length + m ≤ 65536 ∧ Kd.R Kd.string 9 w1 w.heap.size (fun k => w.heap.size ≤ k) (.slice none 0 0) l) := ⟨[], rfl, by simp; omega, Kd.R_nil _ _ _ _ _⟩
  clear h1 t1 HG hn0 hn1
  go_wp2_with fail
  go_loopw [5, 6] (fun v5 v6 wr => ∃ (j : Nat) (rr : Rd), v6 = .int .i64 (j : Int) ∧ Fact (∃ l, (Rd.texts m r2) = (l ++ (Rd.texts j rr).1, (Rd.texts j rr).2) ∧ l.length + j ≤ 65536 ∧ Kd.R Kd.string 9 wr w.heap.size (fun k => w.heap.size ≤ k) v5 l) ∧ Fact (IsRd w0 wr p rr) ∧ Fact (Turn p w wr)) (fun _ v _ => (intOf v).toNat)
  case atStart => exact ⟨m, r2, rfl, I1, H1, T1⟩
  case round =>
    obtain ⟨j, rr, rfl, S1, S2, S3⟩ := hrel
    clear I1 H1 T1
    obtain ⟨l, hl, hlj, hR⟩ := S1.out
    have HLe := Fact.mk hl
    have HRl := Fact.mk hR
    obtain ⟨A5, c5, rfl⟩ := Kd.R_slice hR
    clear S1 hl hR
    have c1 := S2.out.c1
    rcases Nat.eq_zero_or_pos j with h0 | h0
    · subst h0
      go_wp2_with fail
      go_ret
      have e := HLe.out
      rw [Rd.texts, List.append_nil] at e
      exact ⟨_, rfl, by rw [e]; exact HRl.out, by rw [e]; exact S2.out, S3.out⟩
    · obtain ⟨j, rfl⟩ : ∃ q, j = q + 1 := ⟨j - 1, by omega⟩
      have hj0 : (0 : Int) < ((j + 1 : Nat) : Int) := by omega
      cases hbad : rr.bad with
      | true =>
        rw [hbad] at c1
        have e := HLe.out
        rw [texts_stop _ hbad, List.append_nil] at e
        have E := Fact.mk e
        clear hbad e
        go_wp2_with fail
        go_ret
        exact ⟨_, rfl, by rw [E.out]; exact HRl.out, by rw [E.out]; exact S2.out, S3.out⟩
      | false =>
        rw [hbad] at c1
        have e := HLe.out
        rw [texts_go _ hbad] at e
        have E := Fact.mk e
        have HT := Fact.mk (text_any S2.out)
        clear hbad e
        go_wp2_with fail
        refine HT.out.mono ?_
        rintro e w3 ⟨rfl, h3, t3⟩
        have H3 := Fact.mk h3
        have T3 := Fact.mk (S3.out.trans t3)
        have R3 := Fact.mk (own_only HRl.out t3 (fun k hk e => by have := HP.out; omega))
        clear h3 t3 S2 S3 HT HRl c1
        go_wp2_with ((with_reducible refine gate_builtin (b := .append) (xs := #[.tmp 20, .tmp 23]) rfl ?_); at_builtin; refine Fact.out (p := _) ?_)
        refine Fact.mk ?_
        refine Kd.R_append Kd.string (w0 := w3) w.heap.size rfl (.tmp 20) (.tmp 23) 22 9 (.string ByteArray.empty) 16 rfl Tryd.underlying22 info_str rfl (by decide) (by decide) (.slice A5 l.length c5) l rr.text.1 [.string rr.text.1] (fun k => w.heap.size ≤ k) (fun _ => False) rfl rfl rfl (fun _ h => h.elim) ?aF ?aO ?aB ?aS ?aL ?_
        case aF => intro k hk; have := T3.out.size; omega
        case aO => exact R3.out
        case aB => exact Below.refl _ _
        case aS => exact T3.out.size
        case aL => omega
        intro v1 w5 ho hb hg hat
        have I2 : Fact (∃ l2, (Rd.texts m r2) = (l2 ++ (Rd.texts j rr.text.2).1, (Rd.texts j rr.text.2).2) ∧ l2.length + j ≤ 65536 ∧ Kd.R Kd.string 9 w5 w.heap.size (fun k => w.heap.size ≤ k) v1 l2) := ⟨l ++ [rr.text.1], by rw [E.out, List.append_assoc]; rfl, by rw [List.length_append, List.length_singleton]; omega, ho⟩
        have H5 := Fact.mk (H3.out.base hb HP.out)
        have T5 : Fact (Turn p w w5) := ⟨T3.out.then_ (Only.of_base hb) (fun k hk => .inr hk)⟩
        clear ho hb hg hat H3 T3 R3 E HLe
        go_wp2_with fail
        exact ⟨⟨j, rr.text.2, by go_num, I2, H5, T5⟩, by simp [intOf]⟩
set_option maxHeartbeats 1000000 in
set_option maxRecDepth 100000 in
theorem fields_any (h : IsRd w0 w p r) :
    Calls Tryd.prog 56 #[.pointer (some ⟨p, 0, none⟩), .func (.func 57) #[.pointer (some ⟨p, 0, none⟩)] #[]] w fun e w' => ∃ v, e = .returned v ∧ Kd.R fdK 53 w' w.heap.size (fun k => w.heap.size ≤ k) v (Rd.fields (r.get 2).1.toNat (r.get 2).2).1 ∧ IsRd w0 w' p (Rd.fields (r.get 2).1.toNat (r.get 2).2).2 ∧ Turn p w w' := by
  have HG := Fact.mk (get_any h 2 (by omega))
  have HP := Fact.mk h.lt
  obtain ⟨m, hm⟩ := Int.eq_ofNat_of_zero_le (get_nonneg h.rng 2)
  have hm6 := get_lt h.rng
  rw [hm] at hm6
  clear h
  rw [hm] at HG ⊢
  rw [Int.toNat_natCast]
  clear hm
  generalize (r.get 2).2 = r2 at *
  have eg := enters_ Tryd.func57 (by kernel_rfl) rfl
  go_enter Tryd.func56, Tryd.ntmps56
  go_wp2_with fail
  refine HG.out.mono ?_
  rintro e w1 ⟨rfl, hn0, hn1, h1, t1⟩
  have H1 := Fact.mk h1
  have T1 := Fact.mk t1
  have I1 : Fact (∃ l, (Rd.fields m r2) = (l ++ (Rd.fields m r2).1, (Rd.fields m r2).2) ∧ l.length + m ≤ 65536 ∧ Kd.R fdK 53 w1 w.heap.size (fun k => w.heap.size ≤ k) (.slice none 0 0) l) := ⟨[], rfl, by simp; omega, Kd.R_nil _ _ _ _ _⟩
  clear h1 t1 HG hn0 hn1
  go_wp2_with fail
  go_loopw [5, 6] (fun v5 v6 wr => ∃ (j : Nat) (rr : Rd), v6 = .int .i64 (j : Int) ∧ Fact (∃ l, (Rd.fields m r2) = (l ++ (Rd.fields j rr).1, (Rd.fields j rr).2) ∧ l.length + j ≤ 65536 ∧ Kd.R fdK 53 wr w.heap.size (fun k => w.heap.size ≤ k) v5 l) ∧ Fact (IsRd w0 wr p rr) ∧ Fact (Turn p w wr)) (fun _ v _ => (intOf v).toNat)
  case atStart => exact ⟨m, r2, rfl, I1, H1, T1⟩
  case round =>
    obtain ⟨j, rr, rfl, S1, S2, S3⟩ := hrel
    clear I1 H1 T1
    obtain ⟨l, hl, hlj, hR⟩ := S1.out
    have HLe := Fact.mk hl
    have HRl := Fact.mk hR
    obtain ⟨A5, c5, rfl⟩ := Kd.R_slice hR
    clear S1 hl hR
    have c1 := S2.out.c1
    rcases Nat.eq_zero_or_pos j with h0 | h0
    · subst h0
      go_wp2_with fail
      go_ret
      have e := HLe.out
      rw [Rd.fields, List.append_nil] at e
      exact ⟨_, rfl, by rw [e]; exact HRl.out, by rw [e]; exact S2.out, S3.out⟩
    · obtain ⟨j, rfl⟩ : ∃ q, j = q + 1 := ⟨j - 1, by omega⟩
      have hj0 : (0 : Int) < ((j + 1 : Nat) : Int) := by omega
      cases hbad : rr.bad with
      | true =>
        rw [hbad] at c1
        have e := HLe.out
        rw [fields_stop _ hbad, List.append_nil] at e
        have E := Fact.mk e
        clear hbad e
        go_wp2_with fail
        go_ret
        exact ⟨_, rfl, by rw [E.out]; exact HRl.out, by rw [E.out]; exact S2.out, S3.out⟩
      | false =>
        rw [hbad] at c1
        have e := HLe.out
        rw [fields_go _ hbad] at e
        have E := Fact.mk e
        have HT := Fact.mk (field_any S2.out)
        clear hbad e
        go_wp2_with fail
        refine HT.out.mono ?_
        rintro e w3 ⟨rfl, h3, t3⟩
        have H3 := Fact.mk h3
        have T3 := Fact.mk (S3.out.trans t3)
        have R3 := Fact.mk (own_only HRl.out t3 (fun k hk e => by have := HP.out; omega))
        clear h3 t3 S2 S3 HT HRl c1
        go_wp2_with ((with_reducible refine gate_builtin (b := .append) (xs := #[.tmp 20, .tmp 23]) rfl ?_); at_builtin; refine Fact.out (p := _) ?_)
        refine Fact.mk ?_
        refine Kd.R_append fdK (w0 := w3) w.heap.size rfl (.tmp 20) (.tmp 23) 23 53 (.agg #[.string ⟨#[]⟩, .string ⟨#[]⟩]) 32 rfl Tryd.underlying23 info_fd rfl (by decide) (by decide) (.slice A5 l.length c5) l rr.field.1 [.string rr.field.1.1, .string rr.field.1.2] (fun k => w.heap.size ≤ k) (fun _ => False) rfl rfl ⟨_, _, rfl, rfl, rfl⟩ (fun _ h => h.elim) ?aF ?aO ?aB ?aS ?aL ?_
        case aF => intro k hk; have := T3.out.size; omega
        case aO => exact R3.out
        case aB => exact Below.refl _ _
        case aS => exact T3.out.size
        case aL => omega
        intro v1 w5 ho hb hg hat
        have I2 : Fact (∃ l2, (Rd.fields m r2) = (l2 ++ (Rd.fields j rr.field.2).1, (Rd.fields j rr.field.2).2) ∧ l2.length + j ≤ 65536 ∧ Kd.R fdK 53 w5 w.heap.size (fun k => w.heap.size ≤ k) v1 l2) := ⟨l ++ [rr.field.1], by rw [E.out, List.append_assoc]; rfl, by rw [List.length_append, List.length_singleton]; omega, ho⟩
        have H5 := Fact.mk (H3.out.base hb HP.out)
        have T5 : Fact (Turn p w w5) := ⟨T3.out.then_ (Only.of_base hb) (fun k hk => .inr hk)⟩
        clear ho hb hg hat H3 T3 R3 E HLe
        go_wp2_with fail
        exact ⟨⟨j, rr.field.2, by go_num, I2, H5, T5⟩, by simp [intOf]⟩
end
end Go.Proofs.YtllnleokjcimhaaDoor.En
