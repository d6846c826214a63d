/-
Small laws about rows of one's own beside a disk, and about bytes that are copied.
-/
import Derived.Test.YtldefibkaoboeaaDkLaw
namespace Go.Proofs.Ytldefibkaoboeaa.Dk
open Go.RowKit Go.Maps Go.Proofs.YtldefibkaoboeaaW.PrintWords Go.Proofs.YtldefibkaoboeaaW.PrintLast Go.Proofs.YtldefibkaoboeaaW.PrintMore
set_option linter.unusedVariables false
set_option linter.unusedSimpArgs false

theorem next_below {w w1 w2 : World} {S : Nat → Prop} (h : Below w.heap.size w w1) (ho : Only S w1 w2) (hs : ∀ k, S k → w.heap.size ≤ k) : Below w.heap.size w w2 := h.trans (ho.below h.size hs)
theorem next_alloc {w w1 w2 : World} {S : Nat → Prop} {o : Obj} (h : Below w.heap.size w w1) (ho : Only S (w1.alloc o) w2) (hs : ∀ k, S k → w.heap.size ≤ k) : Below w.heap.size w w2 :=
  next_below (h.alloc h.size o) ho hs
theorem next_new {w w1 w2 : World} (h : Below w.heap.size w w1) (hb : Below w1.heap.size w1 w2) : Below w.heap.size w w2 := h.trans (hb.mono h.size)
theorem own_reads_ {w : World} {base n c : Nat} {ok : Nat → Prop} {A : Option Addr} {l : List Int} (h : OwnB w base ok (.slice A n c) l) : n = l.length ∧ n ≤ c ∧ ReadB w A l.length l := by
  obtain ⟨A', c', e, h2, h3⟩ := Kd.R_reads h
  injection e with e1 e2 e3
  subst e1 e2 e3
  exact ⟨rfl, h2, h3⟩
theorem own_put {w : World} {base n c : Nat} {ok : Nat → Prop} {l : List Int} {g : Nat} (h : OwnB w base ok (.slice (some ⟨g, 0, none⟩) n c) l) (j : Nat) (x : Int) : OwnB (w.setCell ⟨g, j, none⟩ (.int .u8 x)) base ok (.slice (some ⟨g, 0, none⟩) n c) (l.set j x) :=
  Kd.R_putn h (j : Int) x
theorem own_at {w : World} {base n c : Nat} {ok : Nat → Prop} {l : List Int} {A : Option Addr} (h : OwnB w base ok (.slice A n c) l) (hl : l.length = n) {j : Nat} (hj : j < n) : ∃ g x, A = some ⟨g, 0, none⟩ ∧ ok g ∧ base ≤ g ∧ w.cell? ⟨g, j, none⟩ = some (.int .u8 x) ∧ w.frozen? ⟨g, j, none⟩ = false := by
  have ho := Kd.own_of_R h
  obtain ⟨g, cap, e, h3, h4⟩ := ho.form (by omega)
  injection e with e1 e2 e3
  subst e1
  have hk : ok g := h.1 g (by simp [Value.ownBlock])
  refine ⟨g, l[j], rfl, hk, own_base ho g (by simp [Value.ownBlock]), ?_, ?_⟩
  · rw [← add_plain]
    exact ho.cells (g := g) rfl j (.int .u8 l[j]) (by simp [encs])
  · obtain ⟨cells, hc⟩ := own_typed ho g (by simp [Value.ownBlock])
    exact frozen_of_row _ _ _ _ _ hc
theorem take_pad {b : List Int} (h : b.length ≤ 64) : (pad b).take b.length = b := by rw [pad_le h, List.take_left]
theorem below_put {w w1 : World} (h : Below w.heap.size w w1) {g : Nat} (hg : w.heap.size ≤ g) (j : Nat) (v : Value) : Below w.heap.size w (w1.setCell ⟨g, j, none⟩ v) := h.setCell hg v
theorem Write_own {w : World} {L : DL} {D : PD} (h : IsDisk w L D) (i : Int) {b : List Int} {A : Option Addr} {c base : Nat} {ok : Nat → Prop} (hb : OwnB w base ok (.slice A b.length c) b) (hok : ∀ k, ok k → ¬ L.S k) {r : Int} {D' : PD} (hr : D.write i b = (r, D')) :
    Calls Try.prog 11 #[.pointer (some ⟨L.p, 0, none⟩), .int .i64 i, .slice A b.length c] w fun e w' => e = .returned (.int .i64 r) ∧ IsDisk w' L D' ∧ Only L.S w w' := by
  have hrd : ∀ W base ok, OwnB W base ok (.slice A b.length c) b → ReadB W A b.length b := fun W base ok ho => by
    obtain ⟨A', c', e, _, h3⟩ := Kd.R_reads ho
    injection e with e1 e2 e3
    rw [e1]; exact h3
  refine (Write_any h i A c b (hrd _ _ _ hb) (fun w' ho => hrd _ _ _ (own_only hb ho hok))).mono ?_
  rintro e w' ⟨rfl, h1, h2⟩
  rw [hr] at h1 ⊢
  exact ⟨rfl, h1, h2⟩
abbrev ReadRows (w : World) (A : Option Addr) (n : Nat) (l : List (List Int)) : Prop := Kd.C (Kd.slice 5 (Kd.int .u8)) w A n l
theorem rows_cell {w : World} {A : Option Addr} {l : List (List Int)} (h : ReadRows w A l.length l) {k : Nat} (hk : k < l.length) : ∃ ad Aj cj, A = some ad ∧ w.cell? (ad.add k) = some (.slice Aj (l.getD k []).length cj) ∧ ReadB w Aj (l.getD k []).length (l.getD k []) := by
  obtain ⟨ad, e, hc⟩ := h.2.2 (by omega)
  obtain ⟨c, h1, ⟨Aj, cj, h2, h5, h6⟩, h3⟩ := hc k l[k] (List.getElem?_eq_getElem hk)
  have h4 : l.getD k [] = l[k] := by rw [List.getD_eq_getElem?_getD, List.getElem?_eq_getElem hk]; rfl
  rw [h4]
  refine ⟨ad, Aj, cj, e, ?_, h6⟩
  have := h3 0 (.slice Aj l[k].length cj) (by rw [h2]; rfl)
  simpa [Kd.slice] using this
theorem Write_read {w wr : World} {L : DL} {D : PD} (h : IsDisk wr L D) (hB : Below w.heap.size w wr) (hL : ∀ k, L.S k → w.heap.size ≤ k) (i : Int) {b : List Int} {A : Option Addr} {c : Nat} (hb : ReadB w A b.length b) {r : Int} {D' : PD} (hr : D.write i b = (r, D')) :
    Calls Try.prog 11 #[.pointer (some ⟨L.p, 0, none⟩), .int .i64 i, .slice A b.length c] wr fun e w' => e = .returned (.int .i64 r) ∧ IsDisk w' L D' ∧ Only L.S wr w' := by
  refine (Write_any h i A c b (Kd.C_below hb hB) (fun w' ho => Kd.C_below hb (next_below hB ho hL))).mono ?_
  rintro e w' ⟨rfl, h1, h2⟩
  rw [hr] at h1 ⊢
  exact ⟨rfl, h1, h2⟩
theorem made64 : ∀ W : World, (Instr.makeSlice 22 (.int .i64 64) (.int .i64 64)).run Try.prog W = .ok (.slice (some ⟨W.heap.size, 0, none⟩) 64 64) (W.alloc (.cells zc 5)) := by
  intro W
  have := print_make (P := Try.prog) 22 5 .u8 1 Try.underlying22 info_u8 (by omega) 64 (by omega) W
  have e : madeCells #[.int .u8 0] 64 = zc := by kernel_rfl
  rw [← e]; exact this
/-- Bytes copied into a new sector of noughts. -/
theorem copy_to (W : World) (Z : Array Value) (hZ : Z.toList = zlist) (t : TypeId) (A : Option Addr) (c : Nat) (b : List Int) (ty : TypeId) (hb : b.length ≤ 64) (hr : ReadB W A b.length b) :
    (Builtin.copy_ #[22, 22] ty #[.slice (some ⟨W.heap.size, 0, none⟩) 64 64, .slice A b.length c]).run Try.prog (W.alloc (.cells Z t)) = .ok (.int .i64 (b.length : Int)) (W.alloc (.cells ((pad b).map (Value.int .u8)).toArray t)) := by
  have hs : (Try.prog.info? 5).map (·.size) = some 1 := by kernel_rfl
  have hZs : Z.size = 64 := by rw [← Array.length_toList, hZ]; simp [zlist]
  rcases Nat.eq_zero_or_pos b.length with h0 | h0
  · obtain rfl : b = [] := List.length_eq_zero_iff.1 h0
    have := run_copy_none (P := Try.prog) (W.alloc (.cells Z t)) 22 22 ty 5 (some ⟨W.heap.size, 0, none⟩) A 64 64 0 c Try.underlying22 hs (by rfl)
    have hz : Z = ((pad []).map (Value.int .u8)).toArray := by
      apply Array.toList_inj.1
      rw [hZ, ← pad_cells (by simp)]; rfl
    rw [← hz]
    exact this
  · obtain ⟨ad, rfl, hc⟩ := hr.2.2 h0
    have hr2 := Kd.C_below hr ((Below.refl _ _).alloc (Nat.le_refl _) (.cells Z t))
    have hlen : (b.map (Value.int .u8)).length = b.length := List.length_map ..
    have := run_copy_cells (P := Try.prog) (W.alloc (.cells Z t)) 22 22 ty 5 W.heap.size 0 64 64 ad b.length c (b.map (Value.int .u8)) Try.underlying22 hs (by rw [hlen]; show b.length = min b.length 64; omega)
      (fun j v hv => by
        obtain ⟨ad2, e, hc2⟩ := hr2.2.2 h0
        cases e
        rw [List.getElem?_map] at hv
        cases hq : b[j]? with
        | none => rw [hq] at hv; cases hv
        | some x =>
          rw [hq] at hv
          obtain ⟨c', hc3, hc4, hc5⟩ := hc2 j x hq
          have := hc5 0 v (by rw [show c' = [.int .u8 x] from hc4]; exact hv)
          simpa [Kd.int, Kd.scalar] using this)
      (fun j hj => by rw [cell_of_row _ _ _ _ _ _ (heap_alloc_new W _), Array.getElem?_eq_getElem (by rw [hlen] at hj; omega)]; rfl)
      (fun j hj => frozen_of_row _ _ _ _ _ (heap_alloc_new W _)) (by intro v hv; obtain ⟨x, _, rfl⟩ := List.mem_map.1 hv; rfl)
    rw [hlen] at this
    rw [setCells_new W Z _ _ (by rw [hlen]; omega), hlen, hZ, pad_cells hb] at this
    exact this
theorem conv_own {w : World} {base n c : Nat} {ok : Nat → Prop} {A : Option Addr} {l : List Int} (h : OwnB w base ok (.slice A n c) l) (o : Obj) : (convert 22 9 (.slice A n c)).run Try.prog (w.alloc o) = .ok (.string (strOfNums l)) (w.alloc o) := by
  have h1 := own_reads_ (Kd.R_below h ((Below.refl _ _).alloc (Nat.le_refl _) o))
  have h2 := h1.2.2
  rw [← h1.1] at h2
  exact Kd.C_string Try.underlying22 Try.underlying5 Try.underlying9 h2
theorem conv_new (w : World) (l : List Int) (hl : l.length = 64) : (convert 22 9 (.slice (some ⟨w.heap.size, 0, none⟩) 64 64)).run Try.prog (w.alloc (.cells (l.map (Value.int .u8)).toArray 5)) = .ok (.string (strOfNums l)) (w.alloc (.cells (l.map (Value.int .u8)).toArray 5)) := by
  have h2 := (bytes_new w l 5 (by omega)).reads
  rw [hl] at h2
  exact Kd.C_string Try.underlying22 Try.underlying5 Try.underlying9 h2
abbrev ReadI (w : World) (A : Option Addr) (n : Nat) (l : List Int) : Prop := Kd.C (Kd.int .i64) w A n l
theorem int_cell {w : World} {A : Option Addr} {l : List Int} (h : ReadI w A l.length l) {k : Nat} (hk : k < l.length) : ∃ ad, A = some ad ∧ w.cell? (ad.add k) = some (.int .i64 (l.getD k 0)) := by
  obtain ⟨ad, e, hc⟩ := h.2.2 (by omega)
  obtain ⟨c, h1, h2, h3⟩ := hc k l[k] (List.getElem?_eq_getElem hk)
  refine ⟨ad, e, ?_⟩
  have h4 : l.getD k 0 = l[k] := by rw [List.getD_eq_getElem?_getD, List.getElem?_eq_getElem hk]; rfl
  have := h3 0 (.int .i64 l[k]) (by rw [show c = [.int .i64 l[k]] from h2]; rfl)
  rw [h4]
  simpa [Kd.int, Kd.scalar] using this
end Go.Proofs.Ytldefibkaoboeaa.Dk
