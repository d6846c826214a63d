/-
The reference's disk in memory: two rows of rows of bytes, one of bools; told by the same plain disk.
-/
import Derived.Test.YtldefibkaoboeaaDkMore
namespace Go.Proofs.Ytldefibkaoboeaa.Dk
open Go.RowKit Go.Maps Go.Proofs.YtldefibkaoboeaaW.PrintWords Go.Proofs.YtldefibkaoboeaaW.PrintLast Go.Proofs.YtldefibkaoboeaaW.PrintMore
set_option linter.unusedVariables false
set_option linter.unusedSimpArgs false

/-- No block of bytes has turned. -/
def Kept8 (w w' : World) : Prop := ∀ (g : Nat) (cells : Array Value), w.heap[g]? = some (.cells cells 5 (0, 0)) → w'.heap[g]? = some (.cells cells 5 (0, 0))
theorem Kept8.refl (w : World) : Kept8 w w := fun _ _ h => h
theorem Kept8.trans {w w1 w2 : World} (h : Kept8 w w1) (k : Kept8 w1 w2) : Kept8 w w2 := fun g c hg => k g c (h g c hg)
theorem Kept8.of_below {w w' : World} (h : Below w.heap.size w w') : Kept8 w w' := fun g c hg => (h.block g (Array.getElem?_eq_some_iff.1 hg).1).trans hg
theorem Kept8.alloc (w : World) (o : Obj) : Kept8 w (w.alloc o) := Kept8.of_below ((Below.refl _ _).alloc (Nat.le_refl _) o)
theorem Kept8.drew (w : World) : Kept8 w w.drew := fun _ _ h => h
theorem Kept8.of_only {S : Nat → Prop} {w w' : World} (h : Only S w w') (hs : ∀ g cells, w.heap[g]? = some (.cells cells 5 (0, 0)) → ¬ S g) : Kept8 w w' :=
  fun g c hg => (h.block g (Array.getElem?_eq_some_iff.1 hg).1 (hs g c hg)).trans hg
/-- A block of 64 bytes. -/
structure Row (w : World) (g : Nat) (b : List Int) : Prop where
  len : b.length = 64
  at_ : w.heap[g]? = some (.cells (b.map (Value.int .u8)).toArray 5 (0, 0))
theorem Row.kept {w w' : World} {g : Nat} {b : List Int} (h : Row w g b) (hk : Kept8 w w') : Row w' g b := ⟨h.len, hk _ _ h.at_⟩
theorem Row.bytes {w : World} {g : Nat} {b : List Int} (h : Row w g b) : BytesAt w g b := ⟨_, _, h.at_, by rw [h.len]; decide⟩
theorem Row.reads {w : World} {g : Nat} {b : List Int} (h : Row w g b) : ReadB w (some ⟨g, 0, none⟩) 64 b := by
  have := h.bytes.reads
  rwa [h.len] at this
theorem Row.lt {w : World} {g : Nat} {b : List Int} (h : Row w g b) : g < w.heap.size := h.bytes.lt
def rowV (g : Nat) : Value := .slice (some ⟨g, 0, none⟩) 64 64
/-- Where the reference's disk lies. -/
structure RL where
  p : Nat
  gs : Nat
  cs : Nat
  gp : Nat
  gb : Nat
def RL.S (R : RL) (k : Nat) : Prop := k = R.p ∨ k = R.gs ∨ k = R.gp ∨ k = R.gb
theorem RL.S_p (R : RL) : R.S R.p := .inl rfl
theorem RL.S_gs (R : RL) : R.S R.gs := .inr (.inl rfl)
theorem RL.S_gp (R : RL) : R.S R.gp := .inr (.inr (.inl rfl))
theorem RL.S_gb (R : RL) : R.S R.gb := .inr (.inr (.inr rfl))
def refCells (R : RL) (n : Nat) (left : Int) (armed down : Bool) : Array Value := #[.slice (some ⟨R.gs, 0, none⟩) n R.cs, .slice (some ⟨R.gp, 0, none⟩) n n, .slice (some ⟨R.gb, 0, none⟩) n n, .int .i64 left, .bool armed, .bool down]
/-- A pending sector's cell. -/
def PCell (w : World) (v : Value) (p : Option (List Int)) : Prop :=
  match p with
  | none => v = .slice none 0 0
  | some b => ∃ g, v = rowV g ∧ Row w g b
theorem PCell.kept {w w' : World} {v : Value} {p : Option (List Int)} (h : PCell w v p) (hk : Kept8 w w') : PCell w' v p := by
  cases p with
  | none => exact h
  | some b => obtain ⟨g, h1, h2⟩ := h; exact ⟨g, h1, h2.kept hk⟩
structure IsRef (w : World) (R : RL) (D : PD) : Prop where
  good : D.Good
  self : ∃ left : Int, w.heap[R.p]? = some (.cells (refCells R D.n left (decide (0 ≤ D.left)) D.down) 54 (0, 0)) ∧ (0 ≤ D.left → left = D.left)
  stands : ∃ cs, w.heap[R.gs]? = some (.cells cs 22 (0, 0)) ∧ ∀ i, i < D.n → ∃ g, cs[i]? = some (rowV g) ∧ Row w g (D.st i)
  pend : ∃ cs, w.heap[R.gp]? = some (.cells cs 22 (0, 0)) ∧ ∀ i, i < D.n → ∃ v, cs[i]? = some v ∧ PCell w v (D.pe i)
  bads : ∃ cs, w.heap[R.gb]? = some (.cells cs 4 (0, 0)) ∧ ∀ i, i < D.n → cs[i]? = some (.bool (D.bad i))
  ne : R.gs ≠ R.gp
theorem IsRef.move {w w' : World} {R : RL} {D : PD} (h : IsRef w R D) (hm : ∀ k, R.S k → w'.heap[k]? = w.heap[k]?) (h8 : Kept8 w w') : IsRef w' R D := by
  obtain ⟨l, h1, h2⟩ := h.self
  obtain ⟨cs, h3, h4⟩ := h.stands
  obtain ⟨cp, h5, h6⟩ := h.pend
  obtain ⟨cb, h7, h9⟩ := h.bads
  refine ⟨h.good, ⟨l, (hm _ R.S_p).trans h1, h2⟩, ⟨cs, (hm _ R.S_gs).trans h3, fun i hi => ?_⟩, ⟨cp, (hm _ R.S_gp).trans h5, fun i hi => ?_⟩, ⟨cb, (hm _ R.S_gb).trans h7, h9⟩, h.ne⟩
  · obtain ⟨g, e, hr⟩ := h4 i hi; exact ⟨g, e, hr.kept h8⟩
  · obtain ⟨v, e, hr⟩ := h6 i hi; exact ⟨v, e, hr.kept h8⟩
theorem IsRef.lt {w : World} {R : RL} {D : PD} (h : IsRef w R D) (k : Nat) (hk : R.S k) : k < w.heap.size := by
  rcases hk with rfl | rfl | rfl | rfl
  · obtain ⟨l, h1, _⟩ := h.self; exact (Array.getElem?_eq_some_iff.1 h1).1
  · obtain ⟨cs, h1, _⟩ := h.stands; exact (Array.getElem?_eq_some_iff.1 h1).1
  · obtain ⟨cs, h1, _⟩ := h.pend; exact (Array.getElem?_eq_some_iff.1 h1).1
  · obtain ⟨cs, h1, _⟩ := h.bads; exact (Array.getElem?_eq_some_iff.1 h1).1
theorem IsRef.below {w w' : World} {R : RL} {D : PD} (h : IsRef w R D) (hb : Below w.heap.size w w') : IsRef w' R D :=
  h.move (fun k hk => hb.block k (h.lt k hk)) (Kept8.of_below hb)
theorem IsRef.drew {w : World} {R : RL} {D : PD} (h : IsRef w R D) : IsRef w.drew R D := h.move (fun _ _ => rfl) (Kept8.drew w)
theorem IsRef.alloc {w : World} {R : RL} {D : PD} (h : IsRef w R D) (o : Obj) : IsRef (w.alloc o) R D := h.below ((Below.refl _ _).alloc (Nat.le_refl _) o)
/-- None of its blocks is a block of bytes. -/
theorem IsRef.not8 {w : World} {R : RL} {D : PD} (h : IsRef w R D) {g : Nat} {cells : Array Value} (hg : w.heap[g]? = some (.cells cells 5 (0, 0))) : ¬ R.S g := by
  rintro (rfl | rfl | rfl | rfl)
  · obtain ⟨l, h1, _⟩ := h.self; rw [hg] at h1; injection h1 with h1; injection h1 with _ h1; exact absurd h1 (by decide)
  · obtain ⟨l, h1, _⟩ := h.stands; rw [hg] at h1; injection h1 with h1; injection h1 with _ h1; exact absurd h1 (by decide)
  · obtain ⟨l, h1, _⟩ := h.pend; rw [hg] at h1; injection h1 with h1; injection h1 with _ h1; exact absurd h1 (by decide)
  · obtain ⟨l, h1, _⟩ := h.bads; rw [hg] at h1; injection h1 with h1; injection h1 with _ h1; exact absurd h1 (by decide)
theorem IsRef.kept {w w' : World} {R : RL} {D : PD} (h : IsRef w R D) (ho : Only R.S w w') : Kept8 w w' := Kept8.of_only ho fun g cells hg => h.not8 hg
theorem IsDisk.not8 {w : World} {L : DL} {D : PD} (h : IsDisk w L D) {g : Nat} {cells : Array Value} (hg : w.heap[g]? = some (.cells cells 5 (0, 0))) : ¬ L.S g := by
  rintro (rfl | rfl | rfl | rfl)
  · have h1 := h.self; rw [hg] at h1; injection h1 with h1; injection h1 with _ h1; exact absurd h1 (by decide)
  · obtain ⟨cs, h1, _⟩ := h.stands; rw [hg] at h1; injection h1 with h1; injection h1 with _ h1; exact absurd h1 (by decide)
  · obtain ⟨_, _, ⟨es2, c2, hp, _⟩, _⟩ := h.pend; rw [hp] at hg; cases hg
  · obtain ⟨f, ⟨_, _, ⟨es, c, hb, _⟩, _⟩, _⟩ := h.bads; rw [hb] at hg; cases hg
theorem IsDisk.kept {w w' : World} {L : DL} {D : PD} (h : IsDisk w L D) (ho : Only L.S w w') : Kept8 w w' := Kept8.of_only ho fun g cells hg => h.not8 hg
/-- The disk and the reference's share nothing. -/
theorem IsRef.apart {w : World} {R : RL} {L : DL} {D D' : PD} (h : IsRef w R D) (hd : IsDisk w L D') (k : Nat) (hk : R.S k) : ¬ L.S k := by
  have hc : ∃ cells t, w.heap[k]? = some (.cells cells t (0, 0)) ∧ t ≠ 62 ∧ t ≠ 65 := by
    rcases hk with rfl | rfl | rfl | rfl
    · obtain ⟨l, h1, _⟩ := h.self; exact ⟨_, _, h1, by decide, by decide⟩
    · obtain ⟨l, h1, _⟩ := h.stands; exact ⟨_, _, h1, by decide, by decide⟩
    · obtain ⟨l, h1, _⟩ := h.pend; exact ⟨_, _, h1, by decide, by decide⟩
    · obtain ⟨l, h1, _⟩ := h.bads; exact ⟨_, _, h1, by decide, by decide⟩
  obtain ⟨cells, t, hg, n1, n2⟩ := hc
  rintro (rfl | rfl | rfl | rfl)
  · have h1 := hd.self; rw [hg] at h1; injection h1 with h1; injection h1 with _ h1; exact n1 h1
  · obtain ⟨cs, h1, _⟩ := hd.stands; rw [hg] at h1; injection h1 with h1; injection h1 with _ h1; exact n2 h1
  · obtain ⟨_, _, ⟨es2, c2, hp, _⟩, _⟩ := hd.pend; rw [hp] at hg; cases hg
  · obtain ⟨f, ⟨_, _, ⟨es, c, hb, _⟩, _⟩, _⟩ := hd.bads; rw [hb] at hg; cases hg
theorem IsRef.disk {w w' : World} {R : RL} {L : DL} {D D' : PD} (h : IsRef w R D) (hd : IsDisk w L D') (ho : Only L.S w w') : IsRef w' R D :=
  h.move (fun k hk => ho.block k (h.lt k hk) (h.apart hd k hk)) (hd.kept ho)
theorem IsDisk.refd {w w' : World} {R : RL} {L : DL} {D D' : PD} (hd : IsDisk w L D') (h : IsRef w R D) (ho : Only R.S w w') : IsDisk w' L D' :=
  hd.only ho fun k hk hr => h.apart hd k hr hk

section
variable {w : World} {R : RL} {D : PD}
theorem IsRef.c0 (h : IsRef w R D) : w.cell? ⟨R.p, 0, none⟩ = some (.slice (some ⟨R.gs, 0, none⟩) D.n R.cs) := by obtain ⟨l, h1, _⟩ := h.self; rw [cell_of_row w R.p 0 _ _ _ h1]; rfl
theorem IsRef.c1 (h : IsRef w R D) : w.cell? ⟨R.p, 1, none⟩ = some (.slice (some ⟨R.gp, 0, none⟩) D.n D.n) := by obtain ⟨l, h1, _⟩ := h.self; rw [cell_of_row w R.p 1 _ _ _ h1]; rfl
theorem IsRef.c2 (h : IsRef w R D) : w.cell? ⟨R.p, 2, none⟩ = some (.slice (some ⟨R.gb, 0, none⟩) D.n D.n) := by obtain ⟨l, h1, _⟩ := h.self; rw [cell_of_row w R.p 2 _ _ _ h1]; rfl
theorem IsRef.c3 (h : IsRef w R D) : ∃ left : Int, w.cell? ⟨R.p, 3, none⟩ = some (.int .i64 left) ∧ (0 ≤ D.left → left = D.left) := by obtain ⟨l, h1, h2⟩ := h.self; exact ⟨l, by rw [cell_of_row w R.p 3 _ _ _ h1]; rfl, h2⟩
theorem IsRef.c4 (h : IsRef w R D) : w.cell? ⟨R.p, 4, none⟩ = some (.bool (decide (0 ≤ D.left))) := by obtain ⟨l, h1, _⟩ := h.self; rw [cell_of_row w R.p 4 _ _ _ h1]; rfl
theorem IsRef.c5 (h : IsRef w R D) : w.cell? ⟨R.p, 5, none⟩ = some (.bool D.down) := by obtain ⟨l, h1, _⟩ := h.self; rw [cell_of_row w R.p 5 _ _ _ h1]; rfl
theorem IsRef.f (h : IsRef w R D) (j : Nat) : w.frozen? ⟨R.p, j, none⟩ = false := by obtain ⟨l, h1, _⟩ := h.self; exact frozen_of_row w R.p j _ _ h1
theorem IsRef.fs (h : IsRef w R D) (j : Nat) : w.frozen? ⟨R.gs, j, none⟩ = false := by obtain ⟨l, h1, _⟩ := h.stands; exact frozen_of_row w R.gs j _ _ h1
theorem IsRef.fp (h : IsRef w R D) (j : Nat) : w.frozen? ⟨R.gp, j, none⟩ = false := by obtain ⟨l, h1, _⟩ := h.pend; exact frozen_of_row w R.gp j _ _ h1
theorem IsRef.fb (h : IsRef w R D) (j : Nat) : w.frozen? ⟨R.gb, j, none⟩ = false := by obtain ⟨l, h1, _⟩ := h.bads; exact frozen_of_row w R.gb j _ _ h1
theorem IsRef.st (h : IsRef w R D) {i : Nat} (hi : i < D.n) : ∃ g, w.cell? ⟨R.gs, i, none⟩ = some (.slice (some ⟨g, 0, none⟩) 64 64) ∧ Row w g (D.st i) := by
  obtain ⟨cs, h1, h2⟩ := h.stands
  obtain ⟨g, e, hr⟩ := h2 i hi
  exact ⟨g, by rw [cell_of_row w R.gs i _ _ _ h1, e]; rfl, hr⟩
theorem IsRef.pe_none (h : IsRef w R D) {i : Nat} (hi : i < D.n) (hp : D.pe i = none) : w.cell? ⟨R.gp, i, none⟩ = some (.slice none 0 0) := by
  obtain ⟨cs, h1, h2⟩ := h.pend
  obtain ⟨v, e, hr⟩ := h2 i hi
  rw [hp] at hr
  rw [cell_of_row w R.gp i _ _ _ h1, e, show v = .slice none 0 0 from hr]
theorem IsRef.pe_some (h : IsRef w R D) {i : Nat} (hi : i < D.n) {b : List Int} (hp : D.pe i = some b) : ∃ g, w.cell? ⟨R.gp, i, none⟩ = some (.slice (some ⟨g, 0, none⟩) 64 64) ∧ Row w g b := by
  obtain ⟨cs, h1, h2⟩ := h.pend
  obtain ⟨v, e, hr⟩ := h2 i hi
  rw [hp] at hr
  obtain ⟨g, rfl, hr⟩ := hr
  exact ⟨g, by rw [cell_of_row w R.gp i _ _ _ h1, e]; rfl, hr⟩
theorem IsRef.pcell (h : IsRef w R D) {i : Nat} (hi : i < D.n) : ∃ v, w.cell? ⟨R.gp, i, none⟩ = some v := by
  obtain ⟨cs, h1, h2⟩ := h.pend
  obtain ⟨v, e, hr⟩ := h2 i hi
  exact ⟨v, by rw [cell_of_row w R.gp i _ _ _ h1, e]⟩
theorem IsRef.bad (h : IsRef w R D) {i : Nat} (hi : i < D.n) : w.cell? ⟨R.gb, i, none⟩ = some (.bool (D.bad i)) := by
  obtain ⟨cs, h1, h2⟩ := h.bads
  rw [cell_of_row w R.gb i _ _ _ h1, h2 i hi]
theorem IsRef.nes (h : IsRef w R D) : R.p ≠ R.gs ∧ R.p ≠ R.gp ∧ R.p ≠ R.gb ∧ R.gs ≠ R.gb ∧ R.gp ≠ R.gb := by
  obtain ⟨l, h1, _⟩ := h.self
  obtain ⟨cs, h3, _⟩ := h.stands
  obtain ⟨cp, h5, _⟩ := h.pend
  obtain ⟨cb, h7, _⟩ := h.bads
  refine ⟨fun e => ?_, fun e => ?_, fun e => ?_, fun e => ?_, fun e => ?_⟩
  · rw [e, h3] at h1; injection h1 with h1; injection h1 with _ h1; exact absurd h1 (by decide)
  · rw [e, h5] at h1; injection h1 with h1; injection h1 with _ h1; exact absurd h1 (by decide)
  · rw [e, h7] at h1; injection h1 with h1; injection h1 with _ h1; exact absurd h1 (by decide)
  · rw [e, h7] at h3; injection h3 with h3; injection h3 with _ h3; exact absurd h3 (by decide)
  · rw [e, h7] at h5; injection h5 with h5; injection h5 with _ h5; exact absurd h5 (by decide)
theorem IsRef.put_kept (h : IsRef w R D) {k : Nat} (hk : R.S k) (i : Nat) (v : Value) : Kept8 w (w.setCell ⟨k, i, none⟩ v) := h.kept (Only.setCell w hk v)
/-- A cell of the struct itself. -/
theorem IsRef.setSelf (h : IsRef w R D) (i : Nat) (v : Value) (left : Int) (down : Bool) (hl : -1 ≤ left) (hh : left < 9223372036854775808)
    (he : ∀ l, (0 ≤ D.left → l = D.left) → ∃ l', (refCells R D.n l (decide (0 ≤ D.left)) D.down).setIfInBounds i v = refCells R D.n l' (decide (0 ≤ left)) down ∧ (0 ≤ left → l' = left)) :
    IsRef (w.setCell ⟨R.p, i, none⟩ v) R { D with left := left, down := down } := by
  have h8 := h.put_kept R.S_p i v
  obtain ⟨n1, n2, n3, _, _⟩ := h.nes
  obtain ⟨l, h1, h2⟩ := h.self
  obtain ⟨cs, h3, h4⟩ := h.stands
  obtain ⟨cp, h5, h6⟩ := h.pend
  obtain ⟨cb, h7, h9⟩ := h.bads
  have hs : ∀ k, k ≠ R.p → (w.setCell ⟨R.p, i, none⟩ v).heap[k]? = w.heap[k]? := fun k hk => heap_setCell_other w _ k v hk
  obtain ⟨l', e1, e2⟩ := he l h2
  refine ⟨⟨h.good.one, h.good.most, hl, hh, h.good.full, h.good.fullp⟩, ⟨l', ?_, e2⟩, ⟨cs, (hs _ (Ne.symm n1)).trans h3, fun i hi => ?_⟩, ⟨cp, (hs _ (Ne.symm n2)).trans h5, fun i hi => ?_⟩, ⟨cb, (hs _ (Ne.symm n3)).trans h7, h9⟩, h.ne⟩
  · rw [heap_setCell_same w R.p i _ _ v h1, e1]
  · obtain ⟨g, e, hr⟩ := h4 i hi; exact ⟨g, e, hr.kept h8⟩
  · obtain ⟨v, e, hr⟩ := h6 i hi; exact ⟨v, e, hr.kept h8⟩
/-- A sector that stands. -/
theorem IsRef.setSt (h : IsRef w R D) {i : Nat} (hi : i < D.n) {g : Nat} {b : List Int} (hr : Row w g b) :
    IsRef (w.setCell ⟨R.gs, i, none⟩ (.slice (some ⟨g, 0, none⟩) 64 64)) R { D with st := fun j => if j = i then b else D.st j } := by
  have h8 := h.put_kept R.S_gs i (.slice (some ⟨g, 0, none⟩) 64 64)
  obtain ⟨n1, n2, n3, n4, _⟩ := h.nes
  obtain ⟨l, h1, h2⟩ := h.self
  obtain ⟨cs, h3, h4⟩ := h.stands
  obtain ⟨cp, h5, h6⟩ := h.pend
  obtain ⟨cb, h7, h9⟩ := h.bads
  have hs : ∀ k, k ≠ R.gs → (w.setCell ⟨R.gs, i, none⟩ (.slice (some ⟨g, 0, none⟩) 64 64)).heap[k]? = w.heap[k]? := fun k hk => heap_setCell_other w _ k _ hk
  refine ⟨⟨h.good.one, h.good.most, h.good.lo, h.good.hi, fun j => ?_, h.good.fullp⟩, ⟨l, (hs _ n1).trans h1, h2⟩, ⟨_, heap_setCell_same w R.gs i _ _ _ h3, fun j hj => ?_⟩, ⟨cp, (hs _ (Ne.symm h.ne)).trans h5, fun i hi => ?_⟩, ⟨cb, (hs _ (Ne.symm n4)).trans h7, h9⟩, h.ne⟩
  · show (if j = i then b else D.st j).length = 64
    split
    · exact hr.len
    · exact h.good.full j
  · by_cases hji : j = i
    · subst hji
      obtain ⟨g', e, _⟩ := h4 j hj
      have hlt := (Array.getElem?_eq_some_iff.1 e).1
      refine ⟨g, ?_, ?_⟩
      · rw [Array.getElem?_setIfInBounds_self_of_lt hlt]; rfl
      · show Row _ g (if j = j then b else D.st j); rw [if_pos rfl]; exact hr.kept h8
    · obtain ⟨g', e, hr'⟩ := h4 j hj
      refine ⟨g', ?_, ?_⟩
      · rw [Array.getElem?_setIfInBounds_ne (Ne.symm hji)]; exact e
      · show Row _ g' (if j = i then b else D.st j); rw [if_neg hji]; exact hr'.kept h8
  · obtain ⟨v, e, hr⟩ := h6 i hi; exact ⟨v, e, hr.kept h8⟩
/-- A sector that is pending, or no more. -/
theorem IsRef.setPe (h : IsRef w R D) {i : Nat} (hi : i < D.n) {v : Value} {p : Option (List Int)} (hp : PCell w v p) :
    IsRef (w.setCell ⟨R.gp, i, none⟩ v) R { D with pe := fun j => if j = i then p else D.pe j } := by
  have h8 := h.put_kept R.S_gp i v
  obtain ⟨n1, n2, n3, n4, n5⟩ := h.nes
  obtain ⟨l, h1, h2⟩ := h.self
  obtain ⟨cs, h3, h4⟩ := h.stands
  obtain ⟨cp, h5, h6⟩ := h.pend
  obtain ⟨cb, h7, h9⟩ := h.bads
  have hs : ∀ k, k ≠ R.gp → (w.setCell ⟨R.gp, i, none⟩ v).heap[k]? = w.heap[k]? := fun k hk => heap_setCell_other w _ k _ hk
  refine ⟨⟨h.good.one, h.good.most, h.good.lo, h.good.hi, h.good.full, fun j b hb => ?_⟩, ⟨l, (hs _ n2).trans h1, h2⟩, ⟨cs, (hs _ h.ne).trans h3, fun i hi => ?_⟩, ⟨_, heap_setCell_same w R.gp i _ _ _ h5, fun j hj => ?_⟩, ⟨cb, (hs _ (Ne.symm n5)).trans h7, h9⟩, h.ne⟩
  · have hb2 : (if j = i then p else D.pe j) = some b := hb
    clear hb
    split at hb2
    · rename_i e; subst e; subst hb2
      obtain ⟨g, _, hr⟩ := hp
      exact ⟨hi, hr.len⟩
    · exact h.good.fullp j b hb2
  · obtain ⟨g, e, hr⟩ := h4 i hi; exact ⟨g, e, hr.kept h8⟩
  · by_cases hji : j = i
    · subst hji
      obtain ⟨g', e, _⟩ := h6 j hj
      have hlt := (Array.getElem?_eq_some_iff.1 e).1
      refine ⟨v, ?_, ?_⟩
      · rw [Array.getElem?_setIfInBounds_self_of_lt hlt]
      · show PCell _ v (if j = j then p else D.pe j); rw [if_pos rfl]; exact hp.kept h8
    · obtain ⟨v', e, hr'⟩ := h6 j hj
      refine ⟨v', ?_, ?_⟩
      · rw [Array.getElem?_setIfInBounds_ne (Ne.symm hji)]; exact e
      · show PCell _ v' (if j = i then p else D.pe j); rw [if_neg hji]; exact hr'.kept h8
/-- A bad sector. -/
theorem IsRef.setBadAt (h : IsRef w R D) {i : Nat} (hi : i < D.n) (on : Bool) : IsRef (w.setCell ⟨R.gb, i, none⟩ (.bool on)) R { D with bad := fun j => if j = i then on else D.bad j } := by
  have h8 := h.put_kept R.S_gb i (.bool on)
  obtain ⟨n1, n2, n3, n4, n5⟩ := h.nes
  obtain ⟨l, h1, h2⟩ := h.self
  obtain ⟨cs, h3, h4⟩ := h.stands
  obtain ⟨cp, h5, h6⟩ := h.pend
  obtain ⟨cb, h7, h9⟩ := h.bads
  have hs : ∀ k, k ≠ R.gb → (w.setCell ⟨R.gb, i, none⟩ (.bool on)).heap[k]? = w.heap[k]? := fun k hk => heap_setCell_other w _ k _ hk
  refine ⟨⟨h.good.one, h.good.most, h.good.lo, h.good.hi, h.good.full, h.good.fullp⟩, ⟨l, (hs _ n3).trans h1, h2⟩, ⟨cs, (hs _ n4).trans h3, fun i hi => ?_⟩, ⟨cp, (hs _ n5).trans h5, fun i hi => ?_⟩, ⟨_, heap_setCell_same w R.gb i _ _ _ h7, fun j hj => ?_⟩, h.ne⟩
  · obtain ⟨g, e, hr⟩ := h4 i hi; exact ⟨g, e, hr.kept h8⟩
  · obtain ⟨v, e, hr⟩ := h6 i hi; exact ⟨v, e, hr.kept h8⟩
  · by_cases hji : j = i
    · subst hji
      have hlt := (Array.getElem?_eq_some_iff.1 (h9 j hj)).1
      rw [Array.getElem?_setIfInBounds_self_of_lt hlt]
      show _ = some (Value.bool (if j = j then on else D.bad j)); rw [if_pos rfl]
    · rw [Array.getElem?_setIfInBounds_ne (Ne.symm hji), h9 j hj]
      show _ = some (Value.bool (if j = i then on else D.bad j)); rw [if_neg hji]
end
end Go.Proofs.Ytldefibkaoboeaa.Dk
