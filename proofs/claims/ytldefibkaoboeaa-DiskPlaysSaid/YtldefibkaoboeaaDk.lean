/-
The disk in memory: what its blocks hold, told by the plain disk; what stays when other blocks are written.
-/
import Derived.Test.YtldefibkaoboeaaDkModel
import Derived.Test.YtldefibkaoboeaaDkMap
import Derived.Below
import Derived.Laws.Rows
import Derived.Lib.Hide
import Derived.Deep.Draws
namespace Go.Proofs.Ytldefibkaoboeaa.Dk
open Go.RowKit Go.Maps
set_option linter.unusedVariables false
set_option linter.unusedSimpArgs false

/-- A fact that the walk's simp doesn't look into. -/
structure Fact (p : Prop) : Prop where mk :: (out : p)

/-- From w to w' nothing that was there has turned but blocks of S. -/
structure Only (S : Nat → Prop) (w w' : World) : Prop where
  os : w'.os = w.os
  tape : w'.tape = w.tape
  output : w'.output = w.output
  size : w.heap.size ≤ w'.heap.size
  block : ∀ k, k < w.heap.size → ¬ S k → w'.heap[k]? = w.heap[k]?
theorem Only.refl (S : Nat → Prop) (w : World) : Only S w w := ⟨rfl, rfl, rfl, Nat.le_refl _, fun _ _ _ => rfl⟩
theorem Only.then_ {S S2 : Nat → Prop} {w w1 w2 : World} (h : Only S w w1) (k : Only S2 w1 w2) (hs : ∀ k, S2 k → S k ∨ w.heap.size ≤ k) : Only S w w2 :=
  ⟨k.os.trans h.os, k.tape.trans h.tape, k.output.trans h.output, Nat.le_trans h.size k.size, fun i hi hn =>
    (k.block i (Nat.lt_of_lt_of_le hi h.size) (fun hk => (hs i hk).elim hn (fun h2 => by omega))).trans (h.block i hi hn)⟩
theorem Only.trans {S : Nat → Prop} {w w1 w2 : World} (h : Only S w w1) (k : Only S w1 w2) : Only S w w2 := h.then_ k (fun _ hk => .inl hk)
theorem Only.mono {S S2 : Nat → Prop} {w w' : World} (h : Only S w w') (hs : ∀ k, S k → S2 k) : Only S2 w w' := ⟨h.os, h.tape, h.output, h.size, fun i hi hn => h.block i hi (fun hk => hn (hs i hk))⟩
theorem Only.of_below {w w' : World} (h : Below w.heap.size w w') (S : Nat → Prop) : Only S w w' := ⟨h.os, h.tape, h.output, h.size, fun i hi _ => h.block i hi⟩
theorem Only.below {S : Nat → Prop} {w w' : World} (h : Only S w w') {B : Nat} (hB : B ≤ w.heap.size) (hs : ∀ k, S k → B ≤ k) : Below B w w' :=
  ⟨h.os, h.tape, h.output, h.size, fun i hi => h.block i (by omega) (fun hk => by have := hs i hk; omega)⟩
theorem Only.alloc (S : Nat → Prop) (w : World) (o : Obj) : Only S w (w.alloc o) := Only.of_below ((Below.refl _ _).alloc (Nat.le_refl _) o) S
theorem Only.drew {S : Nat → Prop} {w w' : World} (h : Only S w w') : Only S w w'.drew := ⟨h.os, h.tape, h.output, h.size, h.block⟩
theorem Only.drewN {S : Nat → Prop} {w w' : World} (h : Only S w w') (n : Nat) : Only S w (w'.drewN n) := ⟨h.os, h.tape, h.output, h.size, h.block⟩
theorem Only.setCell {S : Nat → Prop} (w : World) {a : Addr} (ha : S a.block) (v : Value) : Only S w (w.setCell a v) :=
  ⟨rfl, rfl, rfl, by simp [World.setCell], fun i _ hn => Below.heap_setCell _ _ _ _ (fun e => hn (e ▸ ha))⟩
theorem Only.mapTurned {S : Nat → Prop} {w w' : World} {b : Nat} (h : w.mapTurned w' b) (hb : S b) : Only S w w' := by
  have g := h.grown
  exact ⟨g.os, g.tape, g.output, g.size, fun i hi hn => g.block i hi (fun e => hn (Option.some.inj e ▸ hb))⟩

/-- Where a disk lies: the struct, its sectors, its two maps. -/
structure DL where
  p : Nat
  bs : Nat
  bp : Nat
  bb : Nat
def DL.S (L : DL) (k : Nat) : Prop := k = L.p ∨ k = L.bs ∨ k = L.bp ∨ k = L.bb
def DL.ptr (L : DL) : Value := .pointer (some ⟨L.p, 0, none⟩)
theorem DL.S_p (L : DL) : L.S L.p := .inl rfl
theorem DL.S_bs (L : DL) : L.S L.bs := .inr (.inl rfl)
theorem DL.S_bp (L : DL) : L.S L.bp := .inr (.inr (.inl rfl))
theorem DL.S_bb (L : DL) : L.S L.bb := .inr (.inr (.inr rfl))

/-- A sector as a value. -/
def secV (b : List Int) : Value := .agg (b.map (Value.int .u8)).toArray
/-- The sectors' cells. -/
def StCells (cs : Array Value) (n : Nat) (st : Nat → List Int) : Prop := cs.size = 64 * n ∧ ∀ i j, i < n → j < 64 → cs[64 * i + j]? = some (.int .u8 ((st i).getD j 0))
def selfCells (L : DL) (n : Nat) (left : Int) (down : Bool) : Array Value := #[.slice (some ⟨L.bs, 0, none⟩) n n, .map (some L.bp), .map (some L.bb), .int .i64 left, .bool down]

structure IsDisk (w : World) (L : DL) (D : PD) : Prop where
  good : D.Good
  self : w.heap[L.p]? = some (.cells (selfCells L D.n D.left D.down) 62 (0, 0))
  stands : ∃ cs, w.heap[L.bs]? = some (.cells cs 65 (0, 0)) ∧ StCells cs D.n D.st
  pend : IntMap Try.prog w L.bp (fun i => (D.pe i).map secV) D.n
  bads : ∃ f : Nat → Option Bool, IntMap Try.prog w L.bb (fun i => (f i).map Value.bool) D.n ∧ ∀ i, D.bad i = (f i).getD false
  ne1 : L.p ≠ L.bs
  ne2 : L.bp ≠ L.bb
theorem IsDisk.move {w w' : World} {L : DL} {D : PD} (h : IsDisk w L D) (hm : ∀ k, L.S k → w'.heap[k]? = w.heap[k]?) : IsDisk w' L D := by
  obtain ⟨cs, h1, h2⟩ := h.stands
  obtain ⟨f, h3, h4⟩ := h.bads
  exact ⟨h.good, (hm _ L.S_p).trans h.self, ⟨cs, (hm _ L.S_bs).trans h1, h2⟩, h.pend.move (hm _ L.S_bp), ⟨f, h3.move (hm _ L.S_bb), h4⟩, h.ne1, h.ne2⟩
theorem IsDisk.lt {w : World} {L : DL} {D : PD} (h : IsDisk w L D) (k : Nat) (hk : L.S k) : k < w.heap.size := by
  rcases hk with rfl | rfl | rfl | rfl
  · exact (Array.getElem?_eq_some_iff.1 h.self).1
  · obtain ⟨cs, h1, _⟩ := h.stands; exact (Array.getElem?_eq_some_iff.1 h1).1
  · exact h.pend.lt
  · obtain ⟨f, h3, _⟩ := h.bads; exact h3.lt
/-- What is done elsewhere leaves the disk as it is. -/
theorem IsDisk.only {w w' : World} {L : DL} {D : PD} {S : Nat → Prop} (h : IsDisk w L D) (ho : Only S w w') (hs : ∀ k, L.S k → ¬ S k) : IsDisk w' L D :=
  h.move fun k hk => ho.block k (h.lt k hk) (hs k hk)
theorem IsDisk.below {w w' : World} {L : DL} {D : PD} (h : IsDisk w L D) (hb : Below w.heap.size w w') : IsDisk w' L D :=
  h.move fun k hk => hb.block k (h.lt k hk)
theorem IsDisk.alloc {w : World} {L : DL} {D : PD} (h : IsDisk w L D) (o : Obj) : IsDisk (w.alloc o) L D := h.below ((Below.refl _ _).alloc (Nat.le_refl _) o)
theorem IsDisk.drewN {w : World} {L : DL} {D : PD} (h : IsDisk w L D) (n : Nat) : IsDisk (w.drewN n) L D := h.move fun _ _ => rfl
theorem IsDisk.drew {w : World} {L : DL} {D : PD} (h : IsDisk w L D) : IsDisk w.drew L D := h.move fun _ _ => rfl

section
variable {w : World} {L : DL} {D : PD}
theorem IsDisk.c0 (h : IsDisk w L D) : w.cell? ⟨L.p, 0, none⟩ = some (.slice (some ⟨L.bs, 0, none⟩) D.n D.n) := by rw [cell_of_row w L.p 0 _ _ _ h.self]; rfl
theorem IsDisk.c1 (h : IsDisk w L D) : w.cell? ⟨L.p, 1, none⟩ = some (.map (some L.bp)) := by rw [cell_of_row w L.p 1 _ _ _ h.self]; rfl
theorem IsDisk.c2 (h : IsDisk w L D) : w.cell? ⟨L.p, 2, none⟩ = some (.map (some L.bb)) := by rw [cell_of_row w L.p 2 _ _ _ h.self]; rfl
theorem IsDisk.c3 (h : IsDisk w L D) : w.cell? ⟨L.p, 3, none⟩ = some (.int .i64 D.left) := by rw [cell_of_row w L.p 3 _ _ _ h.self]; rfl
theorem IsDisk.c4 (h : IsDisk w L D) : w.cell? ⟨L.p, 4, none⟩ = some (.bool D.down) := by rw [cell_of_row w L.p 4 _ _ _ h.self]; rfl
theorem IsDisk.f (h : IsDisk w L D) (j : Nat) : w.frozen? ⟨L.p, j, none⟩ = false := frozen_of_row w L.p j _ _ h.self
theorem IsDisk.ne_maps (h : IsDisk w L D) : L.p ≠ L.bp ∧ L.p ≠ L.bb ∧ L.bs ≠ L.bp ∧ L.bs ≠ L.bb := by
  obtain ⟨cs, h1, _⟩ := h.stands
  obtain ⟨f, ⟨_, _, ⟨es, c, hb, _⟩, _⟩, _⟩ := h.bads
  obtain ⟨_, _, ⟨es2, c2, hp, _⟩, _⟩ := h.pend
  have h0 := h.self
  refine ⟨fun e => ?_, fun e => ?_, fun e => ?_, fun e => ?_⟩
  · rw [e, hp] at h0; cases h0
  · rw [e, hb] at h0; cases h0
  · rw [e, hp] at h1; cases h1
  · rw [e, hb] at h1; cases h1
theorem IsDisk.setSelf (h : IsDisk w L D) (i : Nat) (v : Value) (left : Int) (down : Bool) (he : (selfCells L D.n D.left D.down).setIfInBounds i v = selfCells L D.n left down) (hl : -1 ≤ left) (hh : left < 9223372036854775808) :
    IsDisk (w.setCell ⟨L.p, i, none⟩ v) L { D with left := left, down := down } := by
  obtain ⟨n1, n2, n3, n4⟩ := h.ne_maps
  obtain ⟨cs, h1, h2⟩ := h.stands
  obtain ⟨f, h3, h4⟩ := h.bads
  have hs : ∀ k, k ≠ L.p → (w.setCell ⟨L.p, i, none⟩ v).heap[k]? = w.heap[k]? := fun k hk => heap_setCell_other w _ k v hk
  refine ⟨⟨h.good.one, h.good.most, hl, hh, h.good.full, h.good.fullp⟩, ?_, ⟨cs, (hs _ (Ne.symm h.ne1)).trans h1, h2⟩, h.pend.move (hs _ (Ne.symm n1)), ⟨f, h3.move (hs _ (Ne.symm n2)), h4⟩, h.ne1, h.ne2⟩
  rw [heap_setCell_same w L.p i _ _ v h.self, he]
theorem IsDisk.setLeft (h : IsDisk w L D) (k : Int) (hl : -1 ≤ k) (hh : k < 9223372036854775808) : IsDisk (w.setCell ⟨L.p, 3, none⟩ (.int .i64 k)) L { D with left := k } :=
  h.setSelf 3 _ k D.down rfl hl hh
theorem IsDisk.setDown (h : IsDisk w L D) (b : Bool) : IsDisk (w.setCell ⟨L.p, 4, none⟩ (.bool b)) L { D with down := b } :=
  h.setSelf 4 _ D.left b rfl h.good.lo h.good.hi
end
end Go.Proofs.Ytldefibkaoboeaa.Dk
