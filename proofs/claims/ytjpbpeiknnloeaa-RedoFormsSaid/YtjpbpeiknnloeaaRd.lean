/-
The journal in memory; changes and rows of bytes that are read, and stay.
-/
import Derived.Test.YtjpbpeiknnloeaaDkMore
import Derived.Test.YtjpbpeiknnloeaaRdModel
namespace Go.Proofs.Ytjpbpeiknnloeaa.Dk
open Go.RowKit Go.Maps Go.Proofs.YtjpbpeiknnloeaaW.PrintWords Go.Proofs.YtjpbpeiknnloeaaW.PrintLast Go.Proofs.YtjpbpeiknnloeaaW.PrintMore
set_option linter.unusedVariables false
set_option linter.unusedSimpArgs false

/-- A slice by its words. -/
structure SV where
  A : Option Addr
  n : Nat
  c : Nat
def SV.v (s : SV) : Value := .slice s.A s.n s.c
def slK : Kd SV := Kd.scalar SV.v (fun _ => rfl)
def chK : Kd (Int × SV) := Kd.pair (Kd.int .i64) slK
/-- The slice is read as l, now and while only S turns. -/
structure Sees (S : Nat → Prop) (w : World) (s : SV) (l : List Int) : Prop where
  n : s.n = l.length
  c : l.length ≤ s.c
  reads : ∀ w', Only S w w' → ReadB w' s.A l.length l
theorem Sees.step {S : Nat → Prop} {w w1 : World} {s : SV} {l : List Int} (h : Sees S w s l) (ho : Only S w w1) : Sees S w1 s l := ⟨h.n, h.c, fun w' h2 => h.reads w' (ho.trans h2)⟩
theorem Sees.sub {S S2 : Nat → Prop} {w : World} {s : SV} {l : List Int} (h : Sees S w s l) (hs : ∀ k, S2 k → S k) : Sees S2 w s l := ⟨h.n, h.c, fun w' h2 => h.reads w' (h2.mono hs)⟩
theorem Sees.v {S : Nat → Prop} {w : World} {s : SV} {l : List Int} (h : Sees S w s l) : s.v = .slice s.A l.length s.c := by rw [SV.v, h.n]
/-- A row of changes that is read, now and while only S turns. -/
def Chs (S : Nat → Prop) (w : World) (A : Option Addr) (l : List Ch) : Prop :=
  ∃ vs : List (Int × SV), vs.length = l.length ∧ (∀ w', Only S w w' → Kd.C chK w' A vs.length vs) ∧ ∀ (j : Nat) v x, vs[j]? = some v → l[j]? = some x → v.1 = x.1 ∧ Sees S w v.2 x.2
/-- A row of rows of bytes that is read, now and while only S turns. -/
def Rws (S : Nat → Prop) (w : World) (A : Option Addr) (l : List (List Int)) : Prop :=
  ∃ vs : List SV, vs.length = l.length ∧ (∀ w', Only S w w' → Kd.C slK w' A vs.length vs) ∧ ∀ (j : Nat) v x, vs[j]? = some v → l[j]? = some x → Sees S w v x
section
variable {S S2 : Nat → Prop} {w w1 : World} {A : Option Addr}
theorem Chs.step {l : List Ch} (h : Chs S w A l) (ho : Only S w w1) : Chs S w1 A l := by
  obtain ⟨vs, h1, h2, h3⟩ := h
  exact ⟨vs, h1, fun w' h => h2 w' (ho.trans h), fun j v x hv hx => ⟨(h3 j v x hv hx).1, (h3 j v x hv hx).2.step ho⟩⟩
theorem Chs.sub {l : List Ch} (h : Chs S w A l) (hs : ∀ k, S2 k → S k) : Chs S2 w A l := by
  obtain ⟨vs, h1, h2, h3⟩ := h
  exact ⟨vs, h1, fun w' h => h2 w' (h.mono hs), fun j v x hv hx => ⟨(h3 j v x hv hx).1, (h3 j v x hv hx).2.sub hs⟩⟩
theorem Rws.step {l : List (List Int)} (h : Rws S w A l) (ho : Only S w w1) : Rws S w1 A l := by
  obtain ⟨vs, h1, h2, h3⟩ := h
  exact ⟨vs, h1, fun w' h => h2 w' (ho.trans h), fun j v x hv hx => (h3 j v x hv hx).step ho⟩
theorem Rws.sub {l : List (List Int)} (h : Rws S w A l) (hs : ∀ k, S2 k → S k) : Rws S2 w A l := by
  obtain ⟨vs, h1, h2, h3⟩ := h
  exact ⟨vs, h1, fun w' h => h2 w' (h.mono hs), fun j v x hv hx => (h3 j v x hv hx).sub hs⟩
theorem Chs.le {l : List Ch} (h : Chs S w A l) : l.length ≤ 9223372036854775807 := by
  obtain ⟨vs, h1, h2, h3⟩ := h
  rw [← h1]; exact (h2 w (Only.refl _ _)).2.1
theorem Rws.le {l : List (List Int)} (h : Rws S w A l) : l.length ≤ 9223372036854775807 := by
  obtain ⟨vs, h1, h2, h3⟩ := h
  rw [← h1]; exact (h2 w (Only.refl _ _)).2.1
/-- An element. -/
theorem Chs.at_ {l : List Ch} (h : Chs S w A l) {j : Nat} {x : Ch} (hx : l[j]? = some x) : ∃ ad As cs, A = some ad ∧ Sees S w ⟨As, x.2.length, cs⟩ x.2 ∧
    ∀ w', Only S w w' → w'.cell? (ad.add (j * 2)) = some (.int .i64 x.1) ∧ w'.cell? ⟨(ad.add (j * 2)).block, (ad.add (j * 2)).off + 1, none⟩ = some (.slice As x.2.length cs) := by
  obtain ⟨vs, h1, h2, h3⟩ := h
  have hj : j < l.length := (List.getElem?_eq_some_iff.1 hx).1
  have hv : vs[j]? = some vs[j] := List.getElem?_eq_getElem (by omega)
  obtain ⟨e1, e2⟩ := h3 j _ x hv hx
  obtain ⟨ad, eA, _⟩ := (h2 w (Only.refl _ _)).2.2 (by omega)
  refine ⟨ad, vs[j].2.A, vs[j].2.c, eA, ⟨rfl, e2.c, e2.reads⟩, fun w' ho => ?_⟩
  obtain ⟨ad2, eA2, hc⟩ := (h2 w' ho).2.2 (by omega)
  rw [eA] at eA2
  injection eA2 with eA2
  subst eA2
  obtain ⟨c, _, ⟨c0, c1, rfl, k0, k1⟩, hcc⟩ := hc j _ hv
  have k0 : c0 = [.int .i64 vs[j].1] := k0
  have k1 : c1 = [vs[j].2.v] := k1
  rw [k0, k1] at hcc
  have a0 := hcc 0 (.int .i64 vs[j].1) rfl
  have a1 := hcc 1 vs[j].2.v rfl
  rw [show chK.sz = 2 from rfl] at a0 a1
  rw [e1] at a0
  rw [e2.v, add_field _ _ 1 (by omega)] at a1
  exact ⟨a0, a1⟩
theorem Rws.at_ {l : List (List Int)} (h : Rws S w A l) {j : Nat} {x : List Int} (hx : l[j]? = some x) : ∃ ad As cs, A = some ad ∧ Sees S w ⟨As, x.length, cs⟩ x ∧
    ∀ w', Only S w w' → w'.cell? (ad.add j) = some (.slice As x.length cs) := by
  obtain ⟨vs, h1, h2, h3⟩ := h
  have hj : j < l.length := (List.getElem?_eq_some_iff.1 hx).1
  have hv : vs[j]? = some vs[j] := List.getElem?_eq_getElem (by omega)
  have e2 := h3 j _ x hv hx
  obtain ⟨ad, eA, _⟩ := (h2 w (Only.refl _ _)).2.2 (by omega)
  refine ⟨ad, vs[j].A, vs[j].c, eA, ⟨rfl, e2.c, e2.reads⟩, fun w' ho => ?_⟩
  obtain ⟨ad2, eA2, hc⟩ := (h2 w' ho).2.2 (by omega)
  rw [eA] at eA2
  injection eA2 with eA2
  subst eA2
  obtain ⟨c, _, k0, hcc⟩ := hc j _ hv
  have k0 : c = [vs[j].v] := k0
  rw [k0] at hcc
  have a0 := hcc 0 vs[j].v rfl
  rw [show slK.sz = 1 from rfl, e2.v, Nat.mul_one, Nat.add_zero] at a0
  exact a0
/-- A row of changes of one's own is read. -/
theorem Chs.of_own {base : Nat} {ok : Nat → Prop} {n c : Nat} {vs : List (Int × SV)} {l : List Ch} (h : Kd.R chK 47 w base ok (.slice A n c) vs) (hok : ∀ k, ok k → ¬ S k) (hl : vs.length = l.length) (he : ∀ (j : Nat) v x, vs[j]? = some v → l[j]? = some x → v.1 = x.1 ∧ Sees S w v.2 x.2) : Chs S w A l :=
  ⟨vs, hl, fun w' ho => by
    obtain ⟨A', c', e, h2, h3⟩ := Kd.R_reads (own_only h ho hok)
    injection e with e1 e2 e3
    rw [e1]; exact h3, he⟩
theorem Rws.of_own {base : Nat} {ok : Nat → Prop} {n c : Nat} {vs : List SV} {l : List (List Int)} (h : Kd.R slK 27 w base ok (.slice A n c) vs) (hok : ∀ k, ok k → ¬ S k) (hl : vs.length = l.length) (he : ∀ (j : Nat) v x, vs[j]? = some v → l[j]? = some x → Sees S w v x) : Rws S w A l :=
  ⟨vs, hl, fun w' ho => by
    obtain ⟨A', c', e, h2, h3⟩ := Kd.R_reads (own_only h ho hok)
    injection e with e1 e2 e3
    rw [e1]; exact h3, he⟩
/-- Bytes of one's own are seen. -/
theorem Sees.of_own {base : Nat} {ok : Nat → Prop} {n c : Nat} {l : List Int} (h : OwnB w base ok (.slice A n c) l) (hok : ∀ k, ok k → ¬ S k) : Sees S w ⟨A, n, c⟩ l :=
  ⟨(own_reads_ h).1, by have := own_reads_ h; show l.length ≤ c; omega, fun w' ho => (own_reads_ (own_only h ho hok)).2.2⟩
/-- What comes in as an argument is seen as long as nothing elder turns. -/
theorem Sees.of_read {c : Nat} {l : List Int} (h : ReadB w A l.length l) (hc : l.length ≤ c) (hs : ∀ k, S k → w.heap.size ≤ k) : Sees S w ⟨A, l.length, c⟩ l :=
  ⟨rfl, hc, fun w' ho => Kd.C_below h (ho.below (Nat.le_refl _) hs)⟩
end
/-- Changes as they come in as arguments. -/
def inK : Kd Ch := Kd.pair (Kd.int .i64) (Kd.slice 5 (Kd.int .u8))
theorem Chs.of_read {S : Nat → Prop} {w : World} {A : Option Addr} {l : List Ch} (h : Kd.C inK w A l.length l) (hs : ∀ k, S k → w.heap.size ≤ k) : Chs S w A l := by
  have hd : ∃ vs : List (Int × SV), vs.length = l.length ∧ ∀ (j : Nat) v x, vs[j]? = some v → l[j]? = some x → chK.K w v (([.int .i64 x.1, v.2.v] : List Value)) ∧ v.1 = x.1 ∧ v.2.n = x.2.length ∧ x.2.length ≤ v.2.c ∧ ReadB w v.2.A x.2.length x.2 ∧ ∀ ad, A = some ad → w.cell? (ad.add (j * 2)) = some (.int .i64 x.1) ∧ w.cell? (ad.add (j * 2 + 1)) = some v.2.v := by
    have hf : ∀ j : Nat, ∃ v : Int × SV, ∀ x, l[j]? = some x → v.1 = x.1 ∧ v.2.n = x.2.length ∧ x.2.length ≤ v.2.c ∧ ReadB w v.2.A x.2.length x.2 ∧ ∀ ad, A = some ad → w.cell? (ad.add (j * 2)) = some (.int .i64 x.1) ∧ w.cell? (ad.add (j * 2 + 1)) = some v.2.v := by
      intro j
      cases hx : l[j]? with
      | none => exact ⟨(0, ⟨none, 0, 0⟩), fun x h => by cases h⟩
      | some x =>
        have hj : j < l.length := (List.getElem?_eq_some_iff.1 hx).1
        obtain ⟨ad, eA, hc⟩ := h.2.2 (by omega)
        obtain ⟨c, _, ⟨c0, c1, rfl, k0, ⟨Aj, cj, rfl, hle, hr⟩⟩, hcc⟩ := hc j x hx
        have k0 : c0 = [.int .i64 x.1] := k0
        rw [k0] at hcc
        refine ⟨(x.1, ⟨Aj, x.2.length, cj⟩), fun y hy => ?_⟩
        obtain rfl := Option.some.inj hy
        refine ⟨rfl, rfl, hle, hr, fun ad2 e2 => ?_⟩
        rw [eA] at e2
        injection e2 with e2
        subst e2
        exact ⟨hcc 0 _ rfl, hcc 1 _ rfl⟩
    obtain ⟨f, hf⟩ := Classical.axiomOfChoice hf
    refine ⟨(List.range l.length).map f, by simp, fun j v x hv hx => ?_⟩
    have hj : j < l.length := (List.getElem?_eq_some_iff.1 hx).1
    have hv2 : f j = v := by rw [List.getElem?_map, List.getElem?_range hj] at hv; exact Option.some.inj hv
    subst hv2
    obtain ⟨a1, a2, a3, a4, a5⟩ := hf j x hx
    exact ⟨⟨[.int .i64 x.1], [(f j).2.v], rfl, by rw [← a1]; rfl, rfl⟩, a1, a2, a3, a4, a5⟩
  obtain ⟨vs, h1, h2⟩ := hd
  have hC : Kd.C chK w A vs.length vs := by
    refine ⟨rfl, by rw [h1]; exact h.2.1, fun hp => ?_⟩
    obtain ⟨ad, eA, _⟩ := h.2.2 (by omega)
    refine ⟨ad, eA, fun j v hv => ?_⟩
    have hj : j < vs.length := (List.getElem?_eq_some_iff.1 hv).1
    obtain ⟨b1, b2, b3, b4, b5, b6⟩ := h2 j v l[j] hv (List.getElem?_eq_getElem (by omega))
    obtain ⟨q1, q2⟩ := b6 ad eA
    refine ⟨_, rfl, b1, fun i u hu => ?_⟩
    rcases i with _ | _ | i
    · obtain rfl := Option.some.inj hu; exact q1
    · obtain rfl := Option.some.inj hu; exact q2
    · simp at hu
  exact ⟨vs, h1, fun w' ho => Kd.C_below hC (ho.below (Nat.le_refl _) hs), fun j v x hv hx => by
    obtain ⟨b1, b2, b3, b4, b5, b6⟩ := h2 j v x hv hx
    exact ⟨b2, b3, b4, fun w' ho => Kd.C_below b5 (ho.below (Nat.le_refl _) hs)⟩⟩

/-! The journal in memory: a pointer to its disk, and whether it is broken. -/
def IsRedo (w : World) (q : Nat) (L : DL) (br : Bool) : Prop := w.heap[q]? = some (.cells #[.pointer (some ⟨L.p, 0, none⟩), .bool br] 59 (0, 0))
def RS (L : DL) (q : Nat) (k : Nat) : Prop := L.S k ∨ k = q
section
variable {w w' : World} {L : DL} {D : PD} {q : Nat} {br : Bool}
theorem IsRedo.c0 (h : IsRedo w q L br) : w.cell? ⟨q, 0, none⟩ = some (.pointer (some ⟨L.p, 0, none⟩)) := by rw [cell_of_row w q 0 _ _ _ h]; rfl
theorem IsRedo.c1 (h : IsRedo w q L br) : w.cell? ⟨q, 1, none⟩ = some (.bool br) := by rw [cell_of_row w q 1 _ _ _ h]; rfl
theorem IsRedo.f (h : IsRedo w q L br) (j : Nat) : w.frozen? ⟨q, j, none⟩ = false := frozen_of_row w q j _ _ h
theorem IsRedo.lt (h : IsRedo w q L br) : q < w.heap.size := (Array.getElem?_eq_some_iff.1 h).1
theorem IsRedo.only {S : Nat → Prop} (h : IsRedo w q L br) (ho : Only S w w') (hs : ¬ S q) : IsRedo w' q L br := (ho.block q h.lt hs).trans h
/-- The disk's blocks are none of the journal's. -/
theorem IsRedo.apart (h : IsRedo w q L br) (hd : IsDisk w L D) : ¬ L.S q := by
  have h := h
  unfold IsRedo at h
  rintro (rfl | rfl | rfl | rfl)
  · rw [hd.self] at h; injection h with h; injection h with h1 h2; exact absurd h2 (by decide)
  · obtain ⟨cs, h1, _⟩ := hd.stands; rw [h1] at h; injection h with h; injection h with h1 h2; exact absurd h2 (by decide)
  · obtain ⟨_, _, ⟨es2, c2, hp, _⟩, _⟩ := hd.pend; rw [hp] at h; cases h
  · obtain ⟨f, ⟨_, _, ⟨es, c, hb, _⟩, _⟩, _⟩ := hd.bads; rw [hb] at h; cases h
theorem IsRedo.disk (h : IsRedo w q L br) (hd : IsDisk w L D) (ho : Only L.S w w') : IsRedo w' q L br := h.only ho (h.apart hd)
theorem IsRedo.set (h : IsRedo w q L br) (b : Bool) : IsRedo (w.setCell ⟨q, 1, none⟩ (.bool b)) q L b := by
  unfold IsRedo
  rw [heap_setCell_same w q 1 _ _ _ h]; rfl
theorem IsRedo.set_disk (h : IsRedo w q L br) (hd : IsDisk w L D) (b : Bool) : IsDisk (w.setCell ⟨q, 1, none⟩ (.bool b)) L D :=
  hd.only (Only.setCell (S := fun k => k = q) w rfl _) (fun k hk e => h.apart hd (e ▸ hk))
end
end Go.Proofs.Ytjpbpeiknnloeaa.Dk
