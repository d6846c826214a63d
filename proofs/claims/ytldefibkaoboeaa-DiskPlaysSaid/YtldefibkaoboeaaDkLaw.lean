/-
The disk's calls as the laws use them: each with what it answers told by an equation on the plain disk.
-/
import Derived.Test.YtldefibkaoboeaaDkW7
namespace Go.Proofs.Ytldefibkaoboeaa.Dk
open Go.RowKit Go.Maps Go.Proofs.YtldefibkaoboeaaW.PrintWords Go.Proofs.YtldefibkaoboeaaW.PrintLast Go.Proofs.YtldefibkaoboeaaW.PrintMore
set_option linter.unusedVariables false
set_option linter.unusedSimpArgs false

/-- A block of bytes. -/
def BytesAt (w : World) (g : Nat) (l : List Int) : Prop := ∃ t fr, w.heap[g]? = some (.cells (l.map (Value.int .u8)).toArray t fr) ∧ l.length ≤ 9223372036854775807
theorem BytesAt.reads {w : World} {g : Nat} {l : List Int} (h : BytesAt w g l) : ReadB w (some ⟨g, 0, none⟩) l.length l := by
  obtain ⟨t, fr, h, hb⟩ := h
  refine ⟨rfl, hb, fun _ => ⟨_, rfl, fun j p hp => ⟨[.int .u8 p], rfl, rfl, fun i u hu => ?_⟩⟩⟩
  have hi : i = 0 := by rcases i with _ | i; rfl; simp at hu
  subst hi
  have hu : Value.int .u8 p = u := by simpa using hu
  subst hu
  have h2 : (⟨g, 0, none⟩ : Addr).add (j * (Kd.int .u8).sz + 0) = ⟨g, j, none⟩ := by
    show (⟨g, 0, none⟩ : Addr).add (j * 1 + 0) = _
    rw [Nat.mul_one, Nat.add_zero]; exact add_plain _ _
  rw [h2, cell_of_row _ _ _ _ _ _ h]
  simp [hp]
theorem BytesAt.lt {w : World} {g : Nat} {l : List Int} (h : BytesAt w g l) : g < w.heap.size := by
  obtain ⟨t, fr, h, hb⟩ := h
  exact (Array.getElem?_eq_some_iff.1 h).1
theorem BytesAt.only {w w' : World} {g : Nat} {l : List Int} {S : Nat → Prop} (h : BytesAt w g l) (ho : Only S w w') (hs : ¬ S g) : BytesAt w' g l := by
  have := ho.block g h.lt hs
  obtain ⟨t, fr, h, hb⟩ := h
  exact ⟨t, fr, this.trans h, hb⟩
theorem bytes_new (W : World) (l : List Int) (t : TypeId) (hl : l.length ≤ 9223372036854775807) : BytesAt (W.alloc (.cells (l.map (Value.int .u8)).toArray t)) W.heap.size l := ⟨t, (0, 0), heap_alloc_new W _, hl⟩

section
variable {w : World} {L : DL} {D : PD}
/-- 'd.Write(i, b)', b in a block apart from the disk. -/
theorem Write_to (h : IsDisk w L D) (i : Int) (b : List Int) (g c : Nat) (hb : BytesAt w g b) (hg : ¬ L.S g) {r : Int} {D' : PD} (hr : D.write i b = (r, D')) :
    Calls Try.prog 11 #[.pointer (some ⟨L.p, 0, none⟩), .int .i64 i, .slice (some ⟨g, 0, none⟩) b.length c] w fun e w' => e = .returned (.int .i64 r) ∧ IsDisk w' L D' ∧ Only L.S w w' := by
  refine (Write_any h i (some ⟨g, 0, none⟩) c b hb.reads (fun w' ho => (hb.only ho hg).reads)).mono ?_
  rintro e w' ⟨rfl, h1, h2⟩
  rw [hr] at h1 ⊢
  exact ⟨rfl, h1, h2⟩
theorem Flush_to (h : IsDisk w L D) {r : Int} {D' : PD} (hr : D.flush = (r, D')) :
    Calls Try.prog 13 #[.pointer (some ⟨L.p, 0, none⟩)] w fun e w' => e = .returned (.int .i64 r) ∧ IsDisk w' L D' ∧ Only L.S w w' := by
  refine (Flush_any h).mono ?_
  rintro e w' ⟨rfl, h1, h2⟩
  rw [hr] at h1 ⊢
  exact ⟨rfl, h1, h2⟩
/-- 'd.Read(i)' that doesn't. -/
theorem Read_no (h : IsDisk w L D) (i : Int) {r : Int} (hr : D.read i = ([], r)) :
    Calls Try.prog 12 #[.pointer (some ⟨L.p, 0, none⟩), .int .i64 i] w fun e w' => ∃ A c, e = .returned (.tuple #[.slice A 0 c, .int .i64 r]) ∧ IsDisk w' L D ∧ Below w.heap.size w w' := by
  refine (Read_any h i).mono ?_
  rintro e w' ⟨v, rfl, ho, hb⟩
  rw [hr] at ho ⊢
  obtain ⟨A, c, rfl, _⟩ := Kd.R_reads ho
  exact ⟨A, c, rfl, h.below hb, hb⟩
/-- 'd.Read(i)' that goes well: a row of its own in a new block. -/
theorem Read_to (h : IsDisk w L D) (i : Int) {l : List Int} (hr : D.read i = (l, 0)) (hl : l.length = 64) :
    Calls Try.prog 12 #[.pointer (some ⟨L.p, 0, none⟩), .int .i64 i] w fun e w' => ∃ g c, e = .returned (.tuple #[.slice (some ⟨g, 0, none⟩) 64 c, .int .i64 0]) ∧ OwnB w' w.heap.size (fun k => k = g) (.slice (some ⟨g, 0, none⟩) 64 c) l ∧ w.heap.size ≤ g ∧ g < w'.heap.size ∧ IsDisk w' L D ∧ Below w.heap.size w w' := by
  refine (Read_any h i).mono ?_
  rintro e w' ⟨v, rfl, ho, hb⟩
  rw [hr] at ho ⊢
  have hp : 0 < l.length := by omega
  obtain ⟨g, c, rfl, _, _⟩ := (Kd.own_of_R ho).form hp
  rw [hl] at ho
  have ho2 : OwnB w' w.heap.size (fun k => k = g) (.slice (some ⟨g, 0, none⟩) 64 c) l := by
    have h1 := Kd.own_of_R ho
    have := Kd.R_of_own (h1 := fun _ => rfl) (ok := fun k => k = g) h1 (fun k hk => by simpa [Value.ownBlock] using hk.symm)
    exact this
  refine ⟨g, c, ?_, ho2, own_base (Kd.own_of_R ho) g (by simp [Value.ownBlock]), own_lt (Kd.own_of_R ho) g (by simp [Value.ownBlock]), h.below hb, hb⟩
  show Ending.returned (.tuple #[.slice (some ⟨g, 0, none⟩) l.length c, .int .i64 0]) = _
  rw [hl]
theorem own_cell {w : World} {base g n c : Nat} {ok : Nat → Prop} {l : List Int} (h : OwnB w base ok (.slice (some ⟨g, 0, none⟩) n c) l) (j : Nat) (x : Int) (hx : l[j]? = some x) : w.cell? ⟨g, j, none⟩ = some (.int .u8 x) := by
  rw [← add_plain]
  exact (Kd.own_of_R h).cells (g := g) rfl j (.int .u8 x) (by simp [encs, hx])
end
theorem bools_new (W : World) (l : List Bool) (t : TypeId) (hl : l.length ≤ 9223372036854775807) (S : Nat → Prop) (hs : ¬ S W.heap.size) : ∀ W', Only S (W.alloc (.cells (l.map Value.bool).toArray t)) W' → ReadBool W' (some ⟨W.heap.size, 0, none⟩) l.length l := by
  intro W' ho
  have h := (ho.block W.heap.size (by simp) hs).trans (heap_alloc_new W (.cells (l.map Value.bool).toArray t))
  refine ⟨rfl, hl, fun _ => ⟨_, rfl, fun j p hp => ⟨[.bool p], rfl, rfl, fun i u hu => ?_⟩⟩⟩
  have hi : i = 0 := by rcases i with _ | i; rfl; simp at hu
  subst hi
  have hu : Value.bool p = u := by simpa using hu
  subst hu
  have h2 : (⟨W.heap.size, 0, none⟩ : Addr).add (j * Kd.bool.sz + 0) = ⟨W.heap.size, j, none⟩ := by
    show (⟨W.heap.size, 0, none⟩ : Addr).add (j * 1 + 0) = _
    rw [Nat.mul_one, Nat.add_zero]; exact add_plain _ _
  rw [h2, cell_of_row _ _ _ _ _ _ h]
  simp [hp]
theorem IsDisk.fresh {w : World} {L : DL} {D : PD} (h : IsDisk w L D) {g : Nat} (hg : w.heap.size ≤ g) : ¬ L.S g := fun hs => by have := h.lt _ hs; omega
theorem Only.new {S : Nat → Prop} {w w' : World} {B : Nat} (h : Below w.heap.size w w') : Only S w w' := Only.of_below h S
end Go.Proofs.Ytldefibkaoboeaa.Dk
