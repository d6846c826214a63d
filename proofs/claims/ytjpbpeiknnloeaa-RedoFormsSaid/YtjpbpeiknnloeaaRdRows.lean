/-
Rows of bytes that lie in blocks of bytes: nothing turns them but a store into them.
-/
import Derived.Test.YtjpbpeiknnloeaaRdMake
import Derived.Lib.SlBytesConst
namespace Go.Proofs.Ytjpbpeiknnloeaa.Dk
open Go.RowKit Go.Maps Go.Proofs.YtjpbpeiknnloeaaW.PrintWords Go.Proofs.YtjpbpeiknnloeaaW.PrintLast Go.Proofs.YtjpbpeiknnloeaaW.PrintMore
set_option linter.unusedVariables false
set_option linter.unusedSimpArgs false

/-- No block of bytes has turned. -/
def U8 (w w' : World) : Prop := ∀ (g : Nat) (cells : Array Value), w.heap[g]? = some (.cells cells 5 (0, 0)) → w'.heap[g]? = some (.cells cells 5 (0, 0))
theorem U8.refl (w : World) : U8 w w := fun _ _ h => h
theorem U8.trans {w w1 w2 : World} (h : U8 w w1) (k : U8 w1 w2) : U8 w w2 := fun g c hg => k g c (h g c hg)
theorem U8.of_below {w w' : World} (h : Below w.heap.size w w') : U8 w w' := fun g c hg => (h.block g (Array.getElem?_eq_some_iff.1 hg).1).trans hg
theorem U8.alloc (w : World) (o : Obj) : U8 w (w.alloc o) := U8.of_below ((Below.refl _ _).alloc (Nat.le_refl _) o)
theorem U8.drew (w : World) : U8 w w.drew := fun _ _ h => h
theorem U8.of_only {S : Nat → Prop} {w w' : World} (h : Only S w w') (hs : ∀ g cells, w.heap[g]? = some (.cells cells 5 (0, 0)) → ¬ S g) : U8 w w' :=
  fun g c hg => (h.block g (Array.getElem?_eq_some_iff.1 hg).1 (hs g c hg)).trans hg
theorem U8.of_grown {α : Type} {d : Kd α} {e base : Nat} {ok : Nat → Prop} {w w' : World} {v : Value} {xs : List α} (hg : w.grownBy w' v.ownBlock) (h : d.R e w base ok v xs) (he : e ≠ 5) : U8 w w' :=
  fun g c hc => (hg.block g (Array.getElem?_eq_some_iff.1 hc).1 (fun hk => by
    obtain ⟨cells, h2⟩ := Kd.R_typed h g hk.symm
    rw [hc] at h2
    injection h2 with h2
    injection h2 with _ h2
    exact he h2.symm)).trans hc
/-- A row of bytes in a block of bytes from base on. -/
structure BRow (w : World) (base : Nat) (s : SV) (b : List Int) : Prop where
  n : s.n = b.length
  c : b.length ≤ s.c
  le : b.length ≤ 9223372036854775807
  at_ : ∃ g off cs, s.A = some ⟨g, off, none⟩ ∧ base ≤ g ∧ w.heap[g]? = some (.cells cs 5 (0, 0)) ∧ ∀ (j : Nat) x, b[j]? = some x → cs[off + j]? = some (.int .u8 x)
theorem BRow.u8 {w w' : World} {base : Nat} {s : SV} {b : List Int} (h : BRow w base s b) (hu : U8 w w') : BRow w' base s b := by
  obtain ⟨h1, h2, h3, g, off, cs, h4, h5, h6, h7⟩ := h
  exact ⟨h1, h2, h3, g, off, cs, h4, h5, hu _ _ h6, h7⟩
theorem BRow.lower {w : World} {base base' : Nat} {s : SV} {b : List Int} (h : BRow w base s b) (hb : base' ≤ base) : BRow w base' s b := by
  obtain ⟨h1, h2, h3, g, off, cs, h4, h5, h6, h7⟩ := h
  exact ⟨h1, h2, h3, g, off, cs, h4, by omega, h6, h7⟩
theorem BRow.reads {w : World} {base : Nat} {s : SV} {b : List Int} (h : BRow w base s b) : ReadB w s.A b.length b := by
  obtain ⟨h1, h2, h3, g, off, cs, h4, h5, h6, h7⟩ := h
  refine ⟨rfl, h3, fun _ => ⟨_, h4, fun j p hp => ⟨[.int .u8 p], rfl, rfl, fun i u hu => ?_⟩⟩⟩
  have hi : i = 0 := by rcases i with _ | i; rfl; simp at hu
  subst hi
  obtain rfl : Value.int .u8 p = u := by simpa using hu
  have h8 : (⟨g, off, none⟩ : Addr).add (j * (Kd.int .u8).sz + 0) = ⟨g, off + j, none⟩ := by
    show (⟨g, off, none⟩ : Addr).add (j * 1 + 0) = _
    rw [Nat.mul_one, Nat.add_zero, Addr.add_mid]
  rw [h8, cell_of_row _ _ _ _ _ _ h6]
  exact h7 j p hp
theorem BRow.sees {w : World} {base : Nat} {s : SV} {b : List Int} (h : BRow w base s b) {S : Nat → Prop} (hs : ∀ k, S k → k < base) : Sees S w s b :=
  ⟨h.n, h.c, fun w' ho => by
    obtain ⟨h1, h2, h3, g, off, cs, h4, h5, h6, h7⟩ := h
    exact BRow.reads (base := base) ⟨h1, h2, h3, g, off, cs, h4, h5, (ho.block g (Array.getElem?_eq_some_iff.1 h6).1 (fun hk => by have := hs g hk; omega)).trans h6, h7⟩⟩
theorem BRow.new (w : World) (l : List Int) (c : Nat) (hc : l.length ≤ c) (hl : l.length ≤ 9223372036854775807) : BRow (w.alloc (.cells (l.map (Value.int .u8)).toArray 5)) w.heap.size ⟨some ⟨w.heap.size, 0, none⟩, l.length, c⟩ l :=
  ⟨rfl, hc, hl, w.heap.size, 0, _, rfl, Nat.le_refl _, heap_alloc_new w _, fun j x hx => by simp [hx]⟩
theorem BRow.of_own {w : World} {base n c : Nat} {ok : Nat → Prop} {A : Option Addr} {l : List Int} (h : OwnB w base ok (.slice A n c) l) (hn : 0 < l.length) : BRow w base ⟨A, n, c⟩ l := by
  have h1 := own_reads_ h
  have ho := Kd.own_of_R h
  obtain ⟨g, cap, e, h3, h4⟩ := ho.form (by omega)
  injection e with e1 e2 e3
  subst e1 e3
  obtain ⟨cells, hc⟩ := own_typed ho g (by simp [Value.ownBlock])
  refine ⟨h1.1, by show l.length ≤ c; omega, h1.2.2.2.1, g, 0, cells, rfl, own_base ho g (by simp [Value.ownBlock]), hc, fun j x hx => ?_⟩
  have := own_cell h j x hx
  rw [cell_of_row _ _ _ _ _ _ hc] at this
  rw [Nat.zero_add]; exact this
/-- A cut. -/
theorem BRow.cut {w : World} {base : Nat} {g n c : Nat} {b : List Int} (h : BRow w base ⟨some ⟨g, 0, none⟩, n, c⟩ b) (lo hi : Nat) (h1 : lo ≤ hi) (h2 : hi ≤ b.length) : BRow w base ⟨some ⟨g, lo, none⟩, hi - lo, c - lo⟩ ((b.take hi).drop lo) := by
  obtain ⟨q1, q2, q3, g', off, cs, h4, h5, h6, h7⟩ := h
  injection h4 with h4
  injection h4 with e1 e2
  subst e1 e2
  have q2 : b.length ≤ c := q2
  refine ⟨by show hi - lo = _; simp; omega, by show _ ≤ c - lo; simp; omega, by simp; omega, g, lo, cs, rfl, h5, h6, fun j x hx => ?_⟩
  rw [List.getElem?_drop, List.getElem?_take] at hx
  split at hx
  · have := h7 (lo + j) x hx
    rwa [Nat.zero_add] at this
  · cases hx
theorem BRow.cell {w : World} {base : Nat} {g off n c : Nat} {b : List Int} (h : BRow w base ⟨some ⟨g, off, none⟩, n, c⟩ b) {j : Nat} {x : Int} (hx : b[j]? = some x) : w.cell? ⟨g, off + j, none⟩ = some (.int .u8 x) := by
  obtain ⟨q1, q2, q3, g', off', cs, h4, h5, h6, h7⟩ := h
  injection h4 with h4
  injection h4 with e1 e2
  subst e1 e2
  rw [cell_of_row _ _ _ _ _ _ h6]
  exact h7 j x hx
/-- A row of slices whose elements from the second on are rows of bytes. -/
def BRows (w : World) (base : Nat) (vs : List SV) (bs : List (List Int)) : Prop := vs.length = bs.length ∧ ∀ (i : Nat) s b, vs[i]? = some s → bs[i]? = some b → BRow w base s b
theorem BRows.u8 {w w' : World} {base : Nat} {vs : List SV} {bs : List (List Int)} (h : BRows w base vs bs) (hu : U8 w w') : BRows w' base vs bs := ⟨h.1, fun i s b h1 h2 => (h.2 i s b h1 h2).u8 hu⟩
theorem BRows.snoc {w : World} {base : Nat} {vs : List SV} {bs : List (List Int)} (h : BRows w base vs bs) {s : SV} {b : List Int} (hb : BRow w base s b) : BRows w base (vs ++ [s]) (bs ++ [b]) := by
  refine ⟨by simp [h.1], fun i s' b' h1 h2 => ?_⟩
  rcases Nat.lt_trichotomy i vs.length with hi | hi | hi
  · rw [List.getElem?_append_left hi] at h1
    rw [List.getElem?_append_left (by rw [← h.1]; exact hi)] at h2
    exact h.2 i s' b' h1 h2
  · rw [List.getElem?_append_right (by omega), hi, Nat.sub_self] at h1
    rw [List.getElem?_append_right (by rw [← h.1]; omega), hi, h.1, Nat.sub_self] at h2
    obtain rfl := Option.some.inj h1
    obtain rfl := Option.some.inj h2
    exact hb
  · rw [List.getElem?_eq_none (by simp; omega)] at h1; cases h1
theorem BRows.cons {w : World} {base : Nat} {vs : List SV} {bs : List (List Int)} (h : BRows w base vs bs) {s : SV} {b : List Int} (hb : BRow w base s b) : BRows w base (s :: vs) (b :: bs) := by
  refine ⟨by simp [h.1], fun i s' b' h1 h2 => ?_⟩
  cases i with
  | zero => obtain rfl := Option.some.inj h1; obtain rfl := Option.some.inj h2; exact hb
  | succ i => exact h.2 i s' b' h1 h2
theorem Rws.of_rows {w : World} {base b0 : Nat} {ok : Nat → Prop} {A : Option Addr} {n c : Nat} {vs : List SV} {bs : List (List Int)} (h : Kd.R slK 27 w b0 ok (.slice A n c) vs) (hb : BRows w base vs bs) {S : Nat → Prop} (h0 : ∀ k, ok k → ¬ S k) (h1 : ∀ k, S k → k < base) : Rws S w A bs :=
  Rws.of_own h h0 hb.1 (fun j v x hv hx => (hb.2 j v x hv hx).sees h1)
/-- The rows from the second on. -/
theorem Rws.tail {w : World} {base b0 : Nat} {ok : Nat → Prop} {g n c : Nat} {s0 : SV} {vs : List SV} {bs : List (List Int)} (h : Kd.R slK 27 w b0 ok (.slice (some ⟨g, 0, none⟩) n c) (s0 :: vs)) (hb : BRows w base vs bs) (hp : 0 < vs.length) {S : Nat → Prop} (h0 : ∀ k, ok k → ¬ S k) (h1 : ∀ k, S k → k < base) : Rws S w (some ⟨g, 1, none⟩) bs :=
  ⟨vs, hb.1, fun w' ho => by
    obtain ⟨A', c', e, h2, h3⟩ := Kd.R_reads (own_only h ho h0)
    injection e with e1 e2 e3
    subst e1 e3
    have h4 := Kd.C_drop (m := 1) h3 (by simp) h2
    have hc : c ≠ 1 := by simp at h2; omega
    rw [if_neg hc] at h4
    have e5 : (some (⟨g, 0, none⟩ : Addr)).map (·.add (1 * slK.sz)) = some ⟨g, 1, none⟩ := rfl
    rw [e5] at h4
    exact h4, fun j v x hv hx => (hb.2 j v x hv hx).sees h1⟩
theorem add_zero_addr (g k : Nat) : (⟨g, 0, none⟩ : Addr).add k = ⟨g, k, none⟩ := by rw [Addr.add_mid, Nat.zero_add]
theorem info_sl : (Try.prog.info? 27).map (fun i => (i.zero, i.size, i.bytes)) = some (some (.slice none 0 0), 1, 24) := by kernel_rfl
section
variable {P : Program} {w : World} {ops : Array Oper} {rest : List Oper} {o : Oper} {a : Act} {Q : Exit → Act → World → Prop}
theorem wpList_made (hg : o.guard = none) (s x : Operand) (t k e : TypeId) (ho : o.op = .call { callee := .builtin .append, args := #[s, x], argTypes := #[t, k] })
    (ht : P.underlying t = some (.slice e)) (hk : P.underlying k = some (.int .i64)) (hinfo : (P.info? e).map (fun i => (i.zero, i.size, i.bytes)) = some (some (.int .u8 0), 1, 1))
    (base : Nat) (ok : Nat → Prop) (v : Value) (l : List Int) (hs : a.eval s = v) (HO : Kd.R (Kd.int .u8) e w base ok v l) (m : Nat) (hx : a.eval x = .int .i64 (m : Int)) (hm : m ≤ 100000) (hn : l.length ≤ 100000) (hbase : base ≤ w.heap.size)
    (h : ∀ v1 w1, Kd.R (Kd.int .u8) e w1 base (fun _ => True) v1 (l ++ List.replicate m 0) → w.grownBy w1 v.ownBlock → wpList P ops Q rest (a.put o.dst v1) w1) : wpList P ops Q (o :: rest) a w := by
  obtain ⟨i0, hi, hzz⟩ := Option.map_eq_some_iff.1 hinfo
  simp only [Prod.mk.injEq] at hzz
  obtain ⟨hz0, hz1, hz2⟩ := hzz
  have hown := Kd.own_of_R HO
  obtain ⟨v1, w1, hr, h1, h2, h3⟩ := run_made (P := P) (w := w) o.type e t k i0 ht hk hi hz0 hz1 hz2 base v l.length (encs (Value.int .u8) l) hown m hm hn hbase
  refine wpList_plain hg fun K hK => ?_
  unfold Oper.wp execOp
  simp only [ho, resolve, invoke, builtin, Sem.run_bind, Sem.run_pure, Result.andThen_ok, List.map_toArray, List.map_cons, List.map_nil, hs, hx, hr]
  refine hK _ _ (h v1 w1 ?_ h2)
  refine Kd.R_of_own (h1 := fun _ => rfl) ?_ (fun _ _ => trivial)
  have e2 : encs (Value.int .u8) (l ++ List.replicate m 0) = encs (Value.int .u8) l ++ zs m := by simp [encs, zs]
  rw [e2, List.length_append, List.length_replicate]
  exact h1
end
section
variable {P : Program} {w : World} {ops : Array Oper} {rest : List Oper} {o : Oper} {a : Act} {Q : Exit → Act → World → Prop}
theorem C_cells {A : Option Addr} {l : List Int} {n : Nat} (h : ReadB w A n l) {ad : Addr} (hA : A = some ad) : ∀ j v, (l.map (Value.int .u8))[j]? = some v → w.cell? (ad.add j) = some v := by
  intro j v hv
  rw [List.getElem?_map] at hv
  cases hx : l[j]? with
  | none => rw [hx] at hv; cases hv
  | some x =>
    rw [hx] at hv
    have hv : Value.int .u8 x = v := Option.some.inj hv
    have hj : j < l.length := (List.getElem?_eq_some_iff.1 hx).1
    obtain ⟨ad2, e2, hc⟩ := h.2.2 (by have := h.1; omega)
    rw [hA] at e2
    injection e2 with e2
    subst e2
    obtain ⟨c, _, h2, h3⟩ := hc j x hx
    have := h3 0 (.int .u8 x) (by rw [show c = [.int .u8 x] from h2]; rfl)
    rw [← hv]
    simpa [Kd.int, Kd.scalar] using this
/-- 'append' to a row that has no room: a new row. -/
theorem wpList_grow (hgd : o.guard = none) (s x : Operand) (t e : TypeId) (ho : o.op = .call { callee := .builtin .append, args := #[s, x], argTypes := #[t, t] })
    (ht : P.underlying t = some (.slice e)) (hinfo : (P.info? e).map (fun i => (i.zero, i.size, i.bytes)) = some (some (.int .u8 0), 1, 1))
    (b : Addr) (n c : Nat) (xs : List Int) (hs : a.eval s = .slice (some b) n c) (ad : Addr) (m cx : Nat) (ys : List Int) (hx : a.eval x = .slice (some ad) m cx)
    (hxs : ReadB w (some b) n xs) (hys : ReadB w (some ad) m ys) (hc : c < n + m) (hsm : n + m ≤ 100000)
    (h : ∀ v1 w1, Kd.R (Kd.int .u8) e w1 w.heap.size (fun k => w.heap.size ≤ k) v1 (xs ++ ys) → Below w.heap.size w w1 → wpList P ops Q rest (a.put o.dst v1) w1) : wpList P ops Q (o :: rest) a w := by
  obtain ⟨i, hi, hzz⟩ := Option.map_eq_some_iff.1 hinfo
  simp only [Prod.mk.injEq] at hzz
  obtain ⟨hz, hsize, hby⟩ := hzz
  have hn : xs.length = n := hxs.1
  have hm : ys.length = m := hys.1
  have hr := run_append_grow (P := P) w t o.type e i (.int .u8 0) ht hi hz b n c (xs.map (Value.int .u8)) (by rw [List.length_map, hn, hsize]; omega) (C_cells hxs rfl) ad m cx (ys.map (Value.int .u8)) (by rw [List.length_map, hm, hsize]; omega) (C_cells hys rfl) hc (by omega) (by
    rw [hby]
    have := growslice_fits (need := n + m) (old := c) (bytes := 1) (by omega) (by omega); omega)
  refine wpList_plain hgd fun K hK => ?_
  unfold Oper.wp execOp
  simp only [ho, resolve, invoke, builtin, Sem.run_bind, Sem.run_pure, Result.andThen_ok, List.map_toArray, List.map_cons, List.map_nil, hs, hx, hr]
  refine hK _ _ (h _ _ ?_ ?_)
  · have hge := grownCap_ge w (n + m) c e
    have hcm : grownCap w (n + m) c e ≤ maxLen := grownCap_le_maxLen w (n + m) c e (by simp only [maxLen]; omega)
    have hlen : (xs ++ ys).length = n + m := by rw [List.length_append, hn, hm]
    refine Kd.R_of_own (h1 := fun _ => rfl) ?_ (fun k hk => by simp [Value.ownBlock] at hk; omega)
    have e2 : encs (Value.int .u8) (xs ++ ys) = xs.map (Value.int .u8) ++ ys.map (Value.int .u8) := by simp [encs]
    rw [e2, hlen]
    refine ⟨by simp [hn, hm], .inr ⟨w.heap.size, _, _, rfl, Nat.le_refl _, heap_alloc_new w.drew _, hge, hcm, ?_, ?_⟩⟩
    · simp only [Array.size_append, List.size_toArray, List.length_map, size_zeroCells, hn, hm]
      show n + m + _ * 1 = _ * 1
      omega
    · simp only [Array.toList_append, List.append_assoc]
      rw [← List.append_assoc]
      have e3 : (n + m) * 1 = (xs.map (Value.int .u8) ++ ys.map (Value.int .u8)).length := by simp [hn, hm]
      rw [e3]
      exact List.take_left
  · exact ((Below.refl _ _).drew).alloc (Nat.le_refl _) _
end
/-- '[]byte("..")' of a constant of two bytes. -/
theorem const_two (W : World) (x y : Int) : (convert 27 27 (.slice (some ⟨W.heap.size, 0, none⟩) 2 2)).run Try.prog (W.alloc (.cells #[.int .u8 x, .int .u8 y] 5)) = .ok (.slice (some ⟨W.heap.size, 0, none⟩) 2 2) (W.alloc (.cells #[.int .u8 x, .int .u8 y] 5 (2, 3))) :=
  Lib.run_convert_bytes_const W 27 5 #[.int .u8 x, .int .u8 y] 2 2 Try.underlying27 Try.underlying5
theorem reads_marked (W : World) (x y : Int) (fr : Nat × Nat) : ReadB (W.alloc (.cells #[.int .u8 x, .int .u8 y] 5 fr)) (some ⟨W.heap.size, 0, none⟩) 2 [x, y] :=
  BytesAt.reads (l := [x, y]) ⟨5, fr, heap_alloc_new W _, by simp⟩
section
variable {w : World} {base g n c : Nat} {ok : Nat → Prop} {s0 : SV} {vs : List SV}
theorem first_cell (h : Kd.R slK 27 w base ok (.slice (some ⟨g, 0, none⟩) n c) (s0 :: vs)) : w.cell? ⟨g, 0, none⟩ = some s0.v ∧ w.frozen? ⟨g, 0, none⟩ = false ∧ ∃ cells, w.heap[g]? = some (.cells cells 27 (0, 0)) := by
  have ho := Kd.own_of_R h
  obtain ⟨cells, hc⟩ := own_typed ho g (by simp [Value.ownBlock])
  refine ⟨?_, frozen_of_row _ _ _ _ _ hc, cells, hc⟩
  have := ho.cells (g := g) rfl 0 s0.v (by simp [encs])
  rwa [add_zero_addr] at this
theorem first_put (h : Kd.R slK 27 w base ok (.slice (some ⟨g, 0, none⟩) n c) (s0 :: vs)) (s : SV) : Kd.R slK 27 (w.setCell ⟨g, 0, none⟩ s.v) base ok (.slice (some ⟨g, 0, none⟩) n c) (s :: vs) := Kd.R_putn h (0 : Int) s
theorem first_u8 (h : Kd.R slK 27 w base ok (.slice (some ⟨g, 0, none⟩) n c) (s0 :: vs)) (v : Value) : U8 w (w.setCell ⟨g, 0, none⟩ v) := by
  obtain ⟨_, _, cells, hc⟩ := first_cell h
  refine U8.of_only (Only.setCell (S := fun k => k = g) w rfl v) (fun k cs hk e => ?_)
  subst e
  rw [hc] at hk
  injection hk with hk
  injection hk with _ hk
  exact absurd hk (by decide)
end
end Go.Proofs.Ytjpbpeiknnloeaa.Dk
