import Derived.Test.YtllnleokjcimhaaDoorZEntrySameEnQA
/-
What the reader's 'entry' does.
-/
namespace Go.Proofs.YtllnleokjcimhaaDoor.En
open Go.RowKit Go.Maps Go.Proofs.YtllnleokjcimhaaDoorW.PrintWords Go.Proofs.YtllnleokjcimhaaDoorW.PrintLast Go.Proofs.YtllnleokjcimhaaDoorW.PrintMore
set_option linter.unusedVariables false
set_option linter.unusedSimpArgs false
/-- While an entry is read: its own block, the answer's block, the reader; and what else is kept. -/
structure EAt (w0 w w' : World) (p g q : Nat) (T : TypeId) (vs zs : Array Value) (r : Rd) (I : World → Prop) : Prop where
  rd : IsRd w0 w' p r
  tn : Turn p w w'
  hg : w'.heap[g]? = some (.cells vs T (0, 0))
  hq : w'.heap[q]? = some (.cells zs T (0, 0))
  g0 : w.heap.size ≤ g
  q0 : w.heap.size ≤ q
  ne : g ≠ q
  gp : g ≠ p
  qp : q ≠ p
  lw : w0.heap.size ≤ w.heap.size
  inv : I w'
  st : ∀ W W', I W → Only (fun k => k = g ∨ k = q ∨ k = p) W W' → I W'
/-- A row of one's own, apart from these blocks. -/
abbrev RowI {α : Type} (d : Kd α) (e base g q p : Nat) (v : Value) (xs : List α) (W : World) : Prop := d.R e W base (fun k => k ≠ g ∧ k ≠ q ∧ k ≠ p) v xs
section
variable {w0 w w' w2 : World} {p g q : Nat} {T : TypeId} {vs zs : Array Value} {r r2 : Rd} {I : World → Prop}
theorem EAt.step (h : EAt w0 w w' p g q T vs zs r I) (hr : IsRd w0 w2 p r2) (ht : Turn p w' w2) : EAt w0 w w2 p g q T vs zs r2 I :=
  ⟨hr, h.tn.trans ht, (ht.block g (Array.getElem?_eq_some_iff.1 h.hg).1 h.gp).trans h.hg, (ht.block q (Array.getElem?_eq_some_iff.1 h.hq).1 h.qp).trans h.hq, h.g0, h.q0, h.ne, h.gp, h.qp, h.lw, h.st _ _ h.inv (ht.mono fun k hk => .inr (.inr hk)), h.st⟩
theorem EAt.set (h : EAt w0 w w' p g q T vs zs r I) (i : Nat) (v : Value) : EAt w0 w (w'.setCell ⟨g, i, none⟩ v) p g q T (vs.setIfInBounds i v) zs r I := by
  have ho : Only (fun k => k = g) w' (w'.setCell ⟨g, i, none⟩ v) := Only.setCell (S := fun k => k = g) w' rfl v
  exact ⟨h.rd.other ho (fun k hk => by subst hk; exact ⟨Nat.le_trans h.lw h.g0, h.gp⟩), h.tn.then_ ho (fun k hk => .inr (by subst hk; exact h.g0)), heap_setCell_same w' g i _ _ v h.hg, (heap_setCell_other w' _ _ v (Ne.symm h.ne)).trans h.hq, h.g0, h.q0, h.ne, h.gp, h.qp, h.lw, h.st _ _ h.inv (ho.mono fun k hk => .inl hk), h.st⟩
theorem EAt.new (h : EAt w0 w w' p g q T vs zs r I) (hb : Below w'.heap.size w' w2) : EAt w0 w w2 p g q T vs zs r I := h.step (h.rd.new hb) (Only.of_below hb _)
theorem EAt.c (h : EAt w0 w w' p g q T vs zs r I) (i : Nat) : w'.cell? ⟨g, i, none⟩ = vs[i]? := cell_of_row _ _ _ _ _ _ h.hg
theorem EAt.f (h : EAt w0 w w' p g q T vs zs r I) (i : Nat) : w'.frozen? ⟨g, i, none⟩ = false := frozen_of_row _ _ _ _ _ h.hg
theorem EAt.lts (h : EAt w0 w w' p g q T vs zs r I) : g < w'.heap.size ∧ q < w'.heap.size ∧ p < w'.heap.size := ⟨(Array.getElem?_eq_some_iff.1 h.hg).1, (Array.getElem?_eq_some_iff.1 h.hq).1, h.rd.lt⟩
theorem EAt.row {α : Type} {d : Kd α} {e : Nat} {v : Value} {xs : List α} (h : EAt w0 w w' p g q T vs zs r I) (h2 : EAt w0 w w2 p g q T vs zs r2 I) (hR : d.R e w2 w'.heap.size (fun k => w'.heap.size ≤ k) v xs) : EAt w0 w w2 p g q T vs zs r2 (fun W => RowI d e w.heap.size g q p v xs W ∧ I W) := by
  have hl := h.lts
  have hR2 : RowI d e w.heap.size g q p v xs w2 := Kd.R_lower (Kd.R_mono hR (fun k hk => by omega)) h.tn.size
  exact ⟨h2.rd, h2.tn, h2.hg, h2.hq, h2.g0, h2.q0, h2.ne, h2.gp, h2.qp, h2.lw, ⟨hR2, h2.inv⟩, fun W W' hi ho => ⟨own_only hi.1 ho (fun k hk hs => by rcases hs with rfl | rfl | rfl; exact hk.1 rfl; exact hk.2.1 rfl; exact hk.2.2 rfl), h2.st W W' hi.2 ho⟩⟩
theorem EAt.also (h : EAt w0 w w' p g q T vs zs r I) (J : World → Prop) (hJ : J w') (hs : ∀ W W', J W → Only (fun k => k = g ∨ k = q ∨ k = p) W W' → J W') : EAt w0 w w' p g q T vs zs r (fun W => J W ∧ I W) :=
  ⟨h.rd, h.tn, h.hg, h.hq, h.g0, h.q0, h.ne, h.gp, h.qp, h.lw, ⟨hJ, h.inv⟩, fun W W' hi ho => ⟨hs W W' hi.1 ho, h.st W W' hi.2 ho⟩⟩
theorem EAt.setq (h : EAt w0 w w' p g q T vs zs r I) (hz : zs.size = vs.size) {W : World} (ho : Only (fun k => k = q) w' W) (hW : W.heap[q]? = some (.cells vs T (0, 0))) : IsRd w0 W p r ∧ Turn p w W ∧ I W :=
  ⟨h.rd.other ho (fun k hk => by subst hk; exact ⟨Nat.le_trans h.lw h.q0, h.qp⟩), h.tn.then_ ho (fun k hk => .inr (by subst hk; exact h.q0)), h.st _ _ h.inv (ho.mono fun k hk => .inr (.inl hk))⟩
end
/-- A row that is read as long as nothing from b on turns. -/
def Row {α : Type} (d : Kd α) (b : Nat) (w : World) (v : Value) (xs : List α) : Prop := ∃ A c, v = .slice A xs.length c ∧ xs.length ≤ c ∧ ∀ W, Only (fun k => k < b) w W → Kd.C d W A xs.length xs
theorem Row.of_own {α : Type} {d : Kd α} {e b : Nat} {ok : Nat → Prop} {w : World} {v : Value} {xs : List α} (h : d.R e w b ok v xs) : Row d b w v xs := by
  obtain ⟨A, c, rfl, hc, -⟩ := Kd.R_reads h
  refine ⟨A, c, rfl, hc, fun W ho => ?_⟩
  obtain ⟨A', c', e2, _, h3⟩ := Kd.R_reads (own_only (Kd.R_bound h) ho (fun k hk => by omega))
  injection e2 with e3 e4 e5
  subst e3
  exact h3
/-- The block of a text's bytes. -/
def BytesI (y : World) (s : ByteArray) (W : World) : Prop := W.heap[y.heap.size]? = (Lib.bytesWorld y 5 s).heap[y.heap.size]?
theorem BytesI.reads {y W : World} {s : ByteArray} (h : BytesI y s W) (hs : s.size ≤ 9223372036854775807) : ReadB W (some ⟨y.heap.size, 0, none⟩) s.size (bytesOf s) := by
  obtain ⟨h1, h2, h3⟩ := bytes_reads y 5 s hs
  refine ⟨h1, h2, fun hp => ?_⟩
  obtain ⟨ad, e, hc⟩ := h3 hp
  refine ⟨ad, e, fun j b hb => ?_⟩
  have hj : j < s.size := by have := (List.getElem?_eq_some_iff.1 hb).1; rw [bytesOf_length] at this; exact this
  have := hc j hj
  rw [List.getD_eq_getElem?_getD, hb] at this
  have this : (Lib.bytesWorld y 5 s).cell? (ad.add j) = some (Value.int .u8 b) := this
  injection e with e
  subst e
  refine ⟨[.int .u8 b], rfl, rfl, fun i u hu => ?_⟩
  have hi : i = 0 := by rcases i with _ | i; rfl; simp at hu
  subst hi
  obtain rfl : Value.int .u8 b = u := by simpa using hu
  rw [← this]
  show W.cell? ((⟨y.heap.size, 0, none⟩ : Addr).add (j * 1 + 0)) = _
  rw [Nat.mul_one, Nat.add_zero]
  exact World.cell?_of_block (w := Lib.bytesWorld y 5 s) (by rw [add_block]; exact h)
theorem Row.nil {α : Type} (d : Kd α) (b : Nat) (w : World) : Row d b w (.slice none 0 0) [] := ⟨none, 0, rfl, Nat.le_refl _, fun _ _ => ⟨rfl, by simp, fun h => absurd h (by simp)⟩⟩
theorem Row.bytes {y W' : World} {s : ByteArray} {b cap : Nat} (h : BytesI y s W') (hb : b ≤ y.heap.size) (hl : y.heap.size < W'.heap.size) (hs : s.size < 65536) (hc : s.size ≤ cap) : Row (Kd.int .u8) b W' (.slice (some ⟨y.heap.size, 0, none⟩) s.size cap) (bytesOf s) :=
  ⟨_, cap, by rw [bytesOf_length], by rw [bytesOf_length]; exact hc, fun W ho => by
    rw [bytesOf_length]
    exact BytesI.reads (y := y) ((ho.block _ hl (by omega)).trans h) (by omega)⟩
theorem text_size {r : Rd} (h : ∀ x ∈ r.b, 0 ≤ x ∧ x < 256) : r.text.1.size < 65536 := by
  have h1 := get_lt h
  have h2 := get_nonneg h 2
  have h3 := bytes_len (r.get 2).2 (r.get 2).1.toNat
  have h4 : r.text.1.size = r.textB.1.length := by
    show (strOfNums r.textB.1).size = _
    exact strOfNums_size _
  have h5 : r.textB.1.length ≤ (r.get 2).1.toNat := h3
  omega
/-- The answer's block, written cell by cell. -/
theorem put9 (W : World) (q : Nat) (a0 a1 a2 a3 a4 a5 a6 a7 a8 : Value) (hz : W.heap[q]? = some (.cells #[.string ⟨#[]⟩, .string ⟨#[]⟩, .slice none 0 0, .int .i64 0, .int .i64 0, .int .i64 0, .slice none 0 0, .slice none 0 0, .int .i64 0] 27 (0, 0))) :
    (((((((((W.setCell ⟨q, 0, none⟩ a0).setCell ⟨q, 1, none⟩ a1).setCell ⟨q, 2, none⟩ a2).setCell ⟨q, 3, none⟩ a3).setCell ⟨q, 4, none⟩ a4).setCell ⟨q, 5, none⟩ a5).setCell ⟨q, 6, none⟩ a6).setCell ⟨q, 7, none⟩ a7).setCell ⟨q, 8, none⟩ a8).heap[q]? = some (.cells #[a0, a1, a2, a3, a4, a5, a6, a7, a8] 27 (0, 0)) ∧
    Only (fun k => k = q) W (((((((((W.setCell ⟨q, 0, none⟩ a0).setCell ⟨q, 1, none⟩ a1).setCell ⟨q, 2, none⟩ a2).setCell ⟨q, 3, none⟩ a3).setCell ⟨q, 4, none⟩ a4).setCell ⟨q, 5, none⟩ a5).setCell ⟨q, 6, none⟩ a6).setCell ⟨q, 7, none⟩ a7).setCell ⟨q, 8, none⟩ a8) := by
  have o : ∀ (W : World) (i : Nat) (v : Value), Only (fun k => k = q) W (W.setCell ⟨q, i, none⟩ v) := fun W i v => Only.setCell (S := fun k => k = q) W rfl v
  refine ⟨?_, ((((((((o _ _ _).trans (o _ _ _)).trans (o _ _ _)).trans (o _ _ _)).trans (o _ _ _)).trans (o _ _ _)).trans (o _ _ _)).trans (o _ _ _)).trans (o _ _ _)⟩
  rw [heap_setCell_same _ q 8 _ _ _ (heap_setCell_same _ q 7 _ _ _ (heap_setCell_same _ q 6 _ _ _ (heap_setCell_same _ q 5 _ _ _ (heap_setCell_same _ q 4 _ _ _ (heap_setCell_same _ q 3 _ _ _ (heap_setCell_same _ q 2 _ _ _ (heap_setCell_same _ q 1 _ _ _ (heap_setCell_same W q 0 _ _ _ hz))))))))]
  simp only [List.setIfInBounds_toArray, List.set_cons_zero, List.set_cons_succ]
set_option maxHeartbeats 4000000 in
set_option maxRecDepth 100000 in
theorem entry_v1 {w0 w : World} {p : Nat} {r : Rd} (h : IsRd w0 w p r) :
    Calls Tryd.prog 37 #[.pointer (some ⟨p, 0, none⟩), .int .i64 1] w fun e w' => ∃ vn vf vb, e = .returned (.agg #[.string (r.entry 1).1.key, .string (r.entry 1).1.second, vn, .int .i64 (r.entry 1).1.asked, .int .i64 (r.entry 1).1.came, .int .i64 (r.entry 1).1.status, vf, vb, .int .i64 (r.entry 1).1.gen]) ∧
      Row Kd.string w.heap.size w' vn (r.entry 1).1.names ∧ Row fdK w.heap.size w' vf (r.entry 1).1.fields ∧ Row (Kd.int .u8) w.heap.size w' vb (r.entry 1).1.body ∧ IsRd w0 w' p (r.entry 1).2 ∧ Turn p w w' := by
  rw [entry_one r]
  have E0 : Fact (EAt w0 w ((w.alloc (.cells #[(.string ⟨#[]⟩), (.string ⟨#[]⟩), (.slice none 0 0), (.int .i64 0), (.int .i64 0), (.int .i64 0), (.slice none 0 0), (.slice none 0 0), (.int .i64 0)] 27)).alloc (.cells #[(.string ⟨#[]⟩), (.string ⟨#[]⟩), (.slice none 0 0), (.int .i64 0), (.int .i64 0), (.int .i64 0), (.slice none 0 0), (.slice none 0 0), (.int .i64 1)] 27)) p (w.heap.size + 1) w.heap.size 27 #[(.string ⟨#[]⟩), (.string ⟨#[]⟩), (.slice none 0 0), (.int .i64 0), (.int .i64 0), (.int .i64 0), (.slice none 0 0), (.slice none 0 0), (.int .i64 1)] #[(.string ⟨#[]⟩), (.string ⟨#[]⟩), (.slice none 0 0), (.int .i64 0), (.int .i64 0), (.int .i64 0), (.slice none 0 0), (.slice none 0 0), (.int .i64 0)] r (fun _ => True)) := by
    have hp := h.lt
    have b1 : Below w.heap.size w ((w.alloc (.cells #[(.string ⟨#[]⟩), (.string ⟨#[]⟩), (.slice none 0 0), (.int .i64 0), (.int .i64 0), (.int .i64 0), (.slice none 0 0), (.slice none 0 0), (.int .i64 0)] 27)).alloc (.cells #[(.string ⟨#[]⟩), (.string ⟨#[]⟩), (.slice none 0 0), (.int .i64 0), (.int .i64 0), (.int .i64 0), (.slice none 0 0), (.slice none 0 0), (.int .i64 1)] 27)) := ((Below.refl _ _).alloc (Nat.le_refl _) _).alloc (by simp) _
    refine ⟨⟨h.new b1, Only.of_below b1 _, heap_alloc2_new w _ _, ?_, by omega, Nat.le_refl _, by omega, by omega, by omega, h.bl.size, trivial, fun _ _ _ _ => trivial⟩⟩
    exact (Below.heap_alloc _ _ _ (by simp)).trans (heap_alloc_new w _)
  clear h
  go_enter Tryd.func37, Tryd.ntmps37
  go_wp2_with fail
  generalize hwa : ((w.alloc (.cells #[(.string ⟨#[]⟩), (.string ⟨#[]⟩), (.slice none 0 0), (.int .i64 0), (.int .i64 0), (.int .i64 0), (.slice none 0 0), (.slice none 0 0), (.int .i64 0)] 27)).alloc (.cells #[(.string ⟨#[]⟩), (.string ⟨#[]⟩), (.slice none 0 0), (.int .i64 0), (.int .i64 0), (.int .i64 0), (.slice none 0 0), (.slice none 0 0), (.int .i64 1)] 27)) = wa at *
  clear hwa
  generalize hgg : w.heap.size + 1 = g at *
  refine (text_any E0.out.rd).mono ?_
  rintro e x1 ⟨rfl, h1, t1⟩
  have F1 := Fact.mk (E0.out.step h1 t1)
  clear h1 t1 E0
  have ci0 : x1.cell? ⟨g, 0, none⟩ = some (.string ⟨#[]⟩) := by rw [F1.out.c]; rfl
  have fi0 := F1.out.f 0
  have E1 : Fact (EAt w0 w (x1.setCell ⟨g, 0, none⟩ (.string r.text.1)) p g w.heap.size 27 #[(.string r.text.1), (.string ⟨#[]⟩), (.slice none 0 0), (.int .i64 0), (.int .i64 0), (.int .i64 0), (.slice none 0 0), (.slice none 0 0), (.int .i64 1)] #[(.string ⟨#[]⟩), (.string ⟨#[]⟩), (.slice none 0 0), (.int .i64 0), (.int .i64 0), (.int .i64 0), (.slice none 0 0), (.slice none 0 0), (.int .i64 0)] (r.text.2) (fun _ => True)) := ⟨F1.out.set 0 (.string r.text.1)⟩
  clear F1
  go_wp2_with fail
  clear ci0 fi0
  generalize x1.setCell ⟨g, 0, none⟩ (.string r.text.1) = x1s at *
  clear x1
  refine (get_any E1.out.rd 6 (by omega)).mono ?_
  rintro e x2 ⟨rfl, -, -, h1, t1⟩
  have F2 := Fact.mk (E1.out.step h1 t1)
  clear h1 t1 E1
  have ci1 : x2.cell? ⟨g, 3, none⟩ = some (.int .i64 0) := by rw [F2.out.c]; rfl
  have fi1 := F2.out.f 3
  have E2 : Fact (EAt w0 w (x2.setCell ⟨g, 3, none⟩ (.int .i64 (r.text.2.get 6).1)) p g w.heap.size 27 #[(.string r.text.1), (.string ⟨#[]⟩), (.slice none 0 0), (.int .i64 (r.text.2.get 6).1), (.int .i64 0), (.int .i64 0), (.slice none 0 0), (.slice none 0 0), (.int .i64 1)] #[(.string ⟨#[]⟩), (.string ⟨#[]⟩), (.slice none 0 0), (.int .i64 0), (.int .i64 0), (.int .i64 0), (.slice none 0 0), (.slice none 0 0), (.int .i64 0)] ((r.text.2.get 6).2) (fun _ => True)) := ⟨F2.out.set 3 (.int .i64 (r.text.2.get 6).1)⟩
  clear F2
  go_wp2_with fail
  clear ci1 fi1
  generalize x2.setCell ⟨g, 3, none⟩ (.int .i64 (r.text.2.get 6).1) = x2s at *
  clear x2
  refine (get_any E2.out.rd 6 (by omega)).mono ?_
  rintro e x3 ⟨rfl, -, -, h1, t1⟩
  have F3 := Fact.mk (E2.out.step h1 t1)
  clear h1 t1 E2
  have ci2 : x3.cell? ⟨g, 4, none⟩ = some (.int .i64 0) := by rw [F3.out.c]; rfl
  have fi2 := F3.out.f 4
  have E3 : Fact (EAt w0 w (x3.setCell ⟨g, 4, none⟩ (.int .i64 ((r.text.2.get 6).2.get 6).1)) p g w.heap.size 27 #[(.string r.text.1), (.string ⟨#[]⟩), (.slice none 0 0), (.int .i64 (r.text.2.get 6).1), (.int .i64 ((r.text.2.get 6).2.get 6).1), (.int .i64 0), (.slice none 0 0), (.slice none 0 0), (.int .i64 1)] #[(.string ⟨#[]⟩), (.string ⟨#[]⟩), (.slice none 0 0), (.int .i64 0), (.int .i64 0), (.int .i64 0), (.slice none 0 0), (.slice none 0 0), (.int .i64 0)] (((r.text.2.get 6).2.get 6).2) (fun _ => True)) := ⟨F3.out.set 4 (.int .i64 ((r.text.2.get 6).2.get 6).1)⟩
  clear F3
  go_wp2_with fail
  clear ci2 fi2
  generalize x3.setCell ⟨g, 4, none⟩ (.int .i64 ((r.text.2.get 6).2.get 6).1) = x3s at *
  clear x3
  refine (get_any E3.out.rd 6 (by omega)).mono ?_
  rintro e x4 ⟨rfl, -, -, h1, t1⟩
  have F4 := Fact.mk (E3.out.step h1 t1)
  clear h1 t1 E3
  have ci3 : x4.cell? ⟨g, 5, none⟩ = some (.int .i64 0) := by rw [F4.out.c]; rfl
  have fi3 := F4.out.f 5
  have E4 : Fact (EAt w0 w (x4.setCell ⟨g, 5, none⟩ (.int .i64 (((r.text.2.get 6).2.get 6).2.get 6).1)) p g w.heap.size 27 #[(.string r.text.1), (.string ⟨#[]⟩), (.slice none 0 0), (.int .i64 (r.text.2.get 6).1), (.int .i64 ((r.text.2.get 6).2.get 6).1), (.int .i64 (((r.text.2.get 6).2.get 6).2.get 6).1), (.slice none 0 0), (.slice none 0 0), (.int .i64 1)] #[(.string ⟨#[]⟩), (.string ⟨#[]⟩), (.slice none 0 0), (.int .i64 0), (.int .i64 0), (.int .i64 0), (.slice none 0 0), (.slice none 0 0), (.int .i64 0)] ((((r.text.2.get 6).2.get 6).2.get 6).2) (fun _ => True)) := ⟨F4.out.set 5 (.int .i64 (((r.text.2.get 6).2.get 6).2.get 6).1)⟩
  clear F4
  go_wp2_with fail
  clear ci3 fi3
  generalize x4.setCell ⟨g, 5, none⟩ (.int .i64 (((r.text.2.get 6).2.get 6).2.get 6).1) = x4s at *
  clear x4
  refine (fields_any E4.out.rd).mono ?_
  rintro e x5 ⟨vf, rfl, hR, h1, t1⟩
  obtain ⟨A5, c5, rfl⟩ := Kd.R_slice hR
  have G5 := Fact.mk (E4.out.row (E4.out.step h1 t1) hR)
  clear h1 t1 hR E4
  have ci4 : x5.cell? ⟨g, 6, none⟩ = some (.slice none 0 0) := by rw [G5.out.c]; rfl
  have fi4 := G5.out.f 6
  have E5 : Fact (EAt w0 w (x5.setCell ⟨g, 6, none⟩ (.slice A5 ((Rd.fields ((((r.text.2.get 6).2.get 6).2.get 6).2.get 2).1.toNat ((((r.text.2.get 6).2.get 6).2.get 6).2.get 2).2).1).length c5)) p g w.heap.size 27 #[(.string r.text.1), (.string ⟨#[]⟩), (.slice none 0 0), (.int .i64 (r.text.2.get 6).1), (.int .i64 ((r.text.2.get 6).2.get 6).1), (.int .i64 (((r.text.2.get 6).2.get 6).2.get 6).1), (.slice A5 ((Rd.fields ((((r.text.2.get 6).2.get 6).2.get 6).2.get 2).1.toNat ((((r.text.2.get 6).2.get 6).2.get 6).2.get 2).2).1).length c5), (.slice none 0 0), (.int .i64 1)] #[(.string ⟨#[]⟩), (.string ⟨#[]⟩), (.slice none 0 0), (.int .i64 0), (.int .i64 0), (.int .i64 0), (.slice none 0 0), (.slice none 0 0), (.int .i64 0)] ((Rd.fields ((((r.text.2.get 6).2.get 6).2.get 6).2.get 2).1.toNat ((((r.text.2.get 6).2.get 6).2.get 6).2.get 2).2).2) (fun W => RowI fdK 53 w.heap.size g w.heap.size p (.slice A5 ((Rd.fields ((((r.text.2.get 6).2.get 6).2.get 6).2.get 2).1.toNat ((((r.text.2.get 6).2.get 6).2.get 6).2.get 2).2).1).length c5) ((Rd.fields ((((r.text.2.get 6).2.get 6).2.get 6).2.get 2).1.toNat ((((r.text.2.get 6).2.get 6).2.get 6).2.get 2).2).1) W ∧ (fun _ => True) W)) := ⟨G5.out.set 6 (.slice A5 ((Rd.fields ((((r.text.2.get 6).2.get 6).2.get 6).2.get 2).1.toNat ((((r.text.2.get 6).2.get 6).2.get 6).2.get 2).2).1).length c5)⟩
  clear G5
  go_wp2_with fail
  clear ci4 fi4
  generalize x5.setCell ⟨g, 6, none⟩ (.slice A5 ((Rd.fields ((((r.text.2.get 6).2.get 6).2.get 6).2.get 2).1.toNat ((((r.text.2.get 6).2.get 6).2.get 6).2.get 2).2).1).length c5) = x5s at *
  clear x5
  have hcv := fun W => print_bytes (P := Tryd.prog) 9 25 5 Tryd.underlying9 Tryd.underlying25 Tryd.underlying5 ((Rd.fields ((((r.text.2.get 6).2.get 6).2.get 6).2.get 2).1.toNat ((((r.text.2.get 6).2.get 6).2.get 6).2.get 2).2).2.text.1) W
  have HTS := Fact.mk (text_size E5.out.rd.rng)
  refine (text_any E5.out.rd).mono ?_
  rintro e y ⟨rfl, h1, t1⟩
  have Fb := Fact.mk (E5.out.step h1 t1)
  clear h1 t1 E5
  obtain ⟨sb, hsb⟩ : ∃ sb, (Rd.fields ((((r.text.2.get 6).2.get 6).2.get 6).2.get 2).1.toNat ((((r.text.2.get 6).2.get 6).2.get 6).2.get 2).2).2.text.1 = sb := ⟨_, rfl⟩
  have HSB := Fact.mk hsb
  rw [hsb] at hcv HTS ⊢
  clear hsb
  have hb := bytes_below (Below.refl y.heap.size y) (Nat.le_refl _) 5 sb
  have Gb := Fact.mk (((Fb.out.new hb).also (BytesI y sb) rfl (fun W W' hi ho => by
    obtain ⟨l1, l2, l3⟩ := Fb.out.lts
    have hlt : y.heap.size < W.heap.size := by
      rcases Nat.lt_or_ge y.heap.size W.heap.size with h | h
      · exact h
      · rw [BytesI, Lib.bytesWorld_at_new, Array.getElem?_eq_none h] at hi; cases hi
    exact (ho.block _ hlt (by rintro (h | h | h) <;> omega)).trans hi)))
  have hyg : Fact (w.heap.size ≤ y.heap.size) := ⟨Fb.out.tn.size⟩
  clear hb Fb
  have cb : (Lib.bytesWorld y 5 sb).cell? ⟨g, 7, none⟩ = some (.slice none 0 0) := by rw [Gb.out.c]; rfl
  have fb := Gb.out.f 7
  have Hb : Fact (EAt w0 w ((Lib.bytesWorld y 5 sb).setCell ⟨g, 7, none⟩ (.slice (some ⟨y.heap.size, 0, none⟩) sb.size (grownCap y sb.size 0 5))) p g w.heap.size 27 #[(.string r.text.1), (.string ⟨#[]⟩), (.slice none 0 0), (.int .i64 (r.text.2.get 6).1), (.int .i64 ((r.text.2.get 6).2.get 6).1), (.int .i64 (((r.text.2.get 6).2.get 6).2.get 6).1), (.slice A5 ((Rd.fields ((((r.text.2.get 6).2.get 6).2.get 6).2.get 2).1.toNat ((((r.text.2.get 6).2.get 6).2.get 6).2.get 2).2).1).length c5), (.slice (some ⟨y.heap.size, 0, none⟩) sb.size (grownCap y sb.size 0 5)), (.int .i64 1)] #[(.string ⟨#[]⟩), (.string ⟨#[]⟩), (.slice none 0 0), (.int .i64 0), (.int .i64 0), (.int .i64 0), (.slice none 0 0), (.slice none 0 0), (.int .i64 0)] ((Rd.fields ((((r.text.2.get 6).2.get 6).2.get 6).2.get 2).1.toNat ((((r.text.2.get 6).2.get 6).2.get 6).2.get 2).2).2.text.2) (fun W => BytesI y sb W ∧ (fun W => RowI fdK 53 w.heap.size g w.heap.size p (.slice A5 ((Rd.fields ((((r.text.2.get 6).2.get 6).2.get 6).2.get 2).1.toNat ((((r.text.2.get 6).2.get 6).2.get 6).2.get 2).2).1).length c5) ((Rd.fields ((((r.text.2.get 6).2.get 6).2.get 6).2.get 2).1.toNat ((((r.text.2.get 6).2.get 6).2.get 6).2.get 2).2).1) W ∧ (fun _ => True) W) W)) := ⟨Gb.out.set 7 (.slice (some ⟨y.heap.size, 0, none⟩) sb.size (grownCap y sb.size 0 5))⟩
  have z0 : (Lib.bytesWorld y 5 sb).cell? ⟨w.heap.size, 0, none⟩ = some (.string ⟨#[]⟩) := by rw [cell_of_row _ _ _ _ _ _ Gb.out.hq]; rfl
  have z1 : (Lib.bytesWorld y 5 sb).cell? ⟨w.heap.size, 1, none⟩ = some (.string ⟨#[]⟩) := by rw [cell_of_row _ _ _ _ _ _ Gb.out.hq]; rfl
  have z2 : (Lib.bytesWorld y 5 sb).cell? ⟨w.heap.size, 2, none⟩ = some (.slice none 0 0) := by rw [cell_of_row _ _ _ _ _ _ Gb.out.hq]; rfl
  have z3 : (Lib.bytesWorld y 5 sb).cell? ⟨w.heap.size, 3, none⟩ = some (.int .i64 0) := by rw [cell_of_row _ _ _ _ _ _ Gb.out.hq]; rfl
  have z4 : (Lib.bytesWorld y 5 sb).cell? ⟨w.heap.size, 4, none⟩ = some (.int .i64 0) := by rw [cell_of_row _ _ _ _ _ _ Gb.out.hq]; rfl
  have z5 : (Lib.bytesWorld y 5 sb).cell? ⟨w.heap.size, 5, none⟩ = some (.int .i64 0) := by rw [cell_of_row _ _ _ _ _ _ Gb.out.hq]; rfl
  have z6 : (Lib.bytesWorld y 5 sb).cell? ⟨w.heap.size, 6, none⟩ = some (.slice none 0 0) := by rw [cell_of_row _ _ _ _ _ _ Gb.out.hq]; rfl
  have z7 : (Lib.bytesWorld y 5 sb).cell? ⟨w.heap.size, 7, none⟩ = some (.slice none 0 0) := by rw [cell_of_row _ _ _ _ _ _ Gb.out.hq]; rfl
  have z8 : (Lib.bytesWorld y 5 sb).cell? ⟨w.heap.size, 8, none⟩ = some (.int .i64 0) := by rw [cell_of_row _ _ _ _ _ _ Gb.out.hq]; rfl
  have fz : ∀ i, (Lib.bytesWorld y 5 sb).frozen? ⟨w.heap.size, i, none⟩ = false := fun i => frozen_of_row _ _ _ _ _ Gb.out.hq
  have hgq : Fact (g ≠ w.heap.size) := ⟨Gb.out.ne⟩
  clear Gb
  have d0 : ((Lib.bytesWorld y 5 sb).setCell ⟨g, 7, none⟩ (.slice (some ⟨y.heap.size, 0, none⟩) sb.size (grownCap y sb.size 0 5))).cell? ⟨g, 0, none⟩ = some (.string r.text.1) := by rw [Hb.out.c]; rfl
  have d1 : ((Lib.bytesWorld y 5 sb).setCell ⟨g, 7, none⟩ (.slice (some ⟨y.heap.size, 0, none⟩) sb.size (grownCap y sb.size 0 5))).cell? ⟨g, 1, none⟩ = some (.string ⟨#[]⟩) := by rw [Hb.out.c]; rfl
  have d2 : ((Lib.bytesWorld y 5 sb).setCell ⟨g, 7, none⟩ (.slice (some ⟨y.heap.size, 0, none⟩) sb.size (grownCap y sb.size 0 5))).cell? ⟨g, 2, none⟩ = some (.slice none 0 0) := by rw [Hb.out.c]; rfl
  have d3 : ((Lib.bytesWorld y 5 sb).setCell ⟨g, 7, none⟩ (.slice (some ⟨y.heap.size, 0, none⟩) sb.size (grownCap y sb.size 0 5))).cell? ⟨g, 3, none⟩ = some (.int .i64 (r.text.2.get 6).1) := by rw [Hb.out.c]; rfl
  have d4 : ((Lib.bytesWorld y 5 sb).setCell ⟨g, 7, none⟩ (.slice (some ⟨y.heap.size, 0, none⟩) sb.size (grownCap y sb.size 0 5))).cell? ⟨g, 4, none⟩ = some (.int .i64 ((r.text.2.get 6).2.get 6).1) := by rw [Hb.out.c]; rfl
  have d5 : ((Lib.bytesWorld y 5 sb).setCell ⟨g, 7, none⟩ (.slice (some ⟨y.heap.size, 0, none⟩) sb.size (grownCap y sb.size 0 5))).cell? ⟨g, 5, none⟩ = some (.int .i64 (((r.text.2.get 6).2.get 6).2.get 6).1) := by rw [Hb.out.c]; rfl
  have d6 : ((Lib.bytesWorld y 5 sb).setCell ⟨g, 7, none⟩ (.slice (some ⟨y.heap.size, 0, none⟩) sb.size (grownCap y sb.size 0 5))).cell? ⟨g, 6, none⟩ = some (.slice A5 ((Rd.fields ((((r.text.2.get 6).2.get 6).2.get 6).2.get 2).1.toNat ((((r.text.2.get 6).2.get 6).2.get 6).2.get 2).2).1).length c5) := by rw [Hb.out.c]; rfl
  have d7 : ((Lib.bytesWorld y 5 sb).setCell ⟨g, 7, none⟩ (.slice (some ⟨y.heap.size, 0, none⟩) sb.size (grownCap y sb.size 0 5))).cell? ⟨g, 7, none⟩ = some (.slice (some ⟨y.heap.size, 0, none⟩) sb.size (grownCap y sb.size 0 5)) := by rw [Hb.out.c]; rfl
  have d8 : ((Lib.bytesWorld y 5 sb).setCell ⟨g, 7, none⟩ (.slice (some ⟨y.heap.size, 0, none⟩) sb.size (grownCap y sb.size 0 5))).cell? ⟨g, 8, none⟩ = some (.int .i64 1) := by rw [Hb.out.c]; rfl
  generalize hcap : grownCap y sb.size 0 5 = cap at *
  generalize hye : y.heap.size = ye at *
  go_wp2_with fail
  obtain ⟨hW, hO⟩ := put9 ((Lib.bytesWorld y 5 sb).setCell ⟨g, 7, none⟩ (.slice (some ⟨ye, 0, none⟩) sb.size cap)) w.heap.size (.string r.text.1) (.string ⟨#[]⟩) (.slice none 0 0) (.int .i64 (r.text.2.get 6).1) (.int .i64 ((r.text.2.get 6).2.get 6).1) (.int .i64 (((r.text.2.get 6).2.get 6).2.get 6).1) (.slice A5 ((Rd.fields ((((r.text.2.get 6).2.get 6).2.get 6).2.get 2).1.toNat ((((r.text.2.get 6).2.get 6).2.get 6).2.get 2).2).1).length c5) (.slice (some ⟨ye, 0, none⟩) sb.size cap) (.int .i64 1) Hb.out.hq
  obtain ⟨hR, hT, hI⟩ := Hb.out.setq rfl hO hW
  have hlt : y.heap.size < (Lib.bytesWorld y 5 sb).heap.size := by rw [Lib.bytesWorld_size]; omega
  have hlt2 := Nat.lt_of_lt_of_le hlt (Nat.le_trans (Only.setCell (S := fun _ => True) (Lib.bytesWorld y 5 sb) trivial (.slice (some ⟨ye, 0, none⟩) sb.size cap) (a := ⟨g, 7, none⟩)).size hO.size)
  have hcap2 : sb.size ≤ cap := by rw [← hcap]; exact grownCap_ge y sb.size 0 _
  refine bodyPost_ret (results_cell_row rfl _ _ w.heap.size 27 #[(.string r.text.1), (.string ⟨#[]⟩), (.slice none 0 0), (.int .i64 (r.text.2.get 6).1), (.int .i64 ((r.text.2.get 6).2.get 6).1), (.int .i64 (((r.text.2.get 6).2.get 6).2.get 6).1), (.slice A5 ((Rd.fields ((((r.text.2.get 6).2.get 6).2.get 6).2.get 2).1.toNat ((((r.text.2.get 6).2.get 6).2.get 6).2.get 2).2).1).length c5), (.slice (some ⟨ye, 0, none⟩) sb.size cap), (.int .i64 1)] (0, 0) _ rfl hW Tryd.underlying27 rfl (by kernel_rfl)) rfl ?_
  have hbody := Row.bytes (b := w.heap.size) hI.1 (by rw [hye]; exact hyg.out) hlt2 HTS.out hcap2
  rw [hye] at hbody
  simp only [tailE, Rd.fieldsOf]
  clear hW hO Hb
  refine ⟨(.slice none 0 0), (.slice A5 ((Rd.fields ((((r.text.2.get 6).2.get 6).2.get 6).2.get 2).1.toNat ((((r.text.2.get 6).2.get 6).2.get 6).2.get 2).2).1).length c5), (.slice (some ⟨ye, 0, none⟩) sb.size cap), ?_, ?_, ?_, ?_, ?_, ?_⟩
  · with_reducible rfl
  · exact (Row.nil _ _ _)
  · exact Row.of_own hI.2.1
  · (rw [HSB.out]; exact hbody)
  · exact hR
  · exact hT
set_option maxHeartbeats 4000000 in
set_option maxRecDepth 100000 in
theorem entry_v2 {w0 w : World} {p : Nat} {r : Rd} (h : IsRd w0 w p r) :
    Calls Tryd.prog 37 #[.pointer (some ⟨p, 0, none⟩), .int .i64 2] w fun e w' => ∃ vn vf vb, e = .returned (.agg #[.string (r.entry 2).1.key, .string (r.entry 2).1.second, vn, .int .i64 (r.entry 2).1.asked, .int .i64 (r.entry 2).1.came, .int .i64 (r.entry 2).1.status, vf, vb, .int .i64 (r.entry 2).1.gen]) ∧
      Row Kd.string w.heap.size w' vn (r.entry 2).1.names ∧ Row fdK w.heap.size w' vf (r.entry 2).1.fields ∧ Row (Kd.int .u8) w.heap.size w' vb (r.entry 2).1.body ∧ IsRd w0 w' p (r.entry 2).2 ∧ Turn p w w' := by
  rw [entry_two r]
  have E0 : Fact (EAt w0 w ((w.alloc (.cells #[(.string ⟨#[]⟩), (.string ⟨#[]⟩), (.slice none 0 0), (.int .i64 0), (.int .i64 0), (.int .i64 0), (.slice none 0 0), (.slice none 0 0), (.int .i64 0)] 27)).alloc (.cells #[(.string ⟨#[]⟩), (.string ⟨#[]⟩), (.slice none 0 0), (.int .i64 0), (.int .i64 0), (.int .i64 0), (.slice none 0 0), (.slice none 0 0), (.int .i64 1)] 27)) p (w.heap.size + 1) w.heap.size 27 #[(.string ⟨#[]⟩), (.string ⟨#[]⟩), (.slice none 0 0), (.int .i64 0), (.int .i64 0), (.int .i64 0), (.slice none 0 0), (.slice none 0 0), (.int .i64 1)] #[(.string ⟨#[]⟩), (.string ⟨#[]⟩), (.slice none 0 0), (.int .i64 0), (.int .i64 0), (.int .i64 0), (.slice none 0 0), (.slice none 0 0), (.int .i64 0)] r (fun _ => True)) := by
    have hp := h.lt
    have b1 : Below w.heap.size w ((w.alloc (.cells #[(.string ⟨#[]⟩), (.string ⟨#[]⟩), (.slice none 0 0), (.int .i64 0), (.int .i64 0), (.int .i64 0), (.slice none 0 0), (.slice none 0 0), (.int .i64 0)] 27)).alloc (.cells #[(.string ⟨#[]⟩), (.string ⟨#[]⟩), (.slice none 0 0), (.int .i64 0), (.int .i64 0), (.int .i64 0), (.slice none 0 0), (.slice none 0 0), (.int .i64 1)] 27)) := ((Below.refl _ _).alloc (Nat.le_refl _) _).alloc (by simp) _
    refine ⟨⟨h.new b1, Only.of_below b1 _, heap_alloc2_new w _ _, ?_, by omega, Nat.le_refl _, by omega, by omega, by omega, h.bl.size, trivial, fun _ _ _ _ => trivial⟩⟩
    exact (Below.heap_alloc _ _ _ (by simp)).trans (heap_alloc_new w _)
  clear h
  go_enter Tryd.func37, Tryd.ntmps37
  go_wp2_with fail
  generalize hwa : ((w.alloc (.cells #[(.string ⟨#[]⟩), (.string ⟨#[]⟩), (.slice none 0 0), (.int .i64 0), (.int .i64 0), (.int .i64 0), (.slice none 0 0), (.slice none 0 0), (.int .i64 0)] 27)).alloc (.cells #[(.string ⟨#[]⟩), (.string ⟨#[]⟩), (.slice none 0 0), (.int .i64 0), (.int .i64 0), (.int .i64 0), (.slice none 0 0), (.slice none 0 0), (.int .i64 1)] 27)) = wa at *
  clear hwa
  generalize hgg : w.heap.size + 1 = g at *
  refine (get_any E0.out.rd 6 (by omega)).mono ?_
  rintro e x1 ⟨rfl, -, -, h1, t1⟩
  have F1 := Fact.mk (E0.out.step h1 t1)
  clear h1 t1 E0
  have ci5 : x1.cell? ⟨g, 8, none⟩ = some (.int .i64 1) := by rw [F1.out.c]; rfl
  have fi5 := F1.out.f 8
  have E1 : Fact (EAt w0 w (x1.setCell ⟨g, 8, none⟩ (.int .i64 (r.get 6).1)) p g w.heap.size 27 #[(.string ⟨#[]⟩), (.string ⟨#[]⟩), (.slice none 0 0), (.int .i64 0), (.int .i64 0), (.int .i64 0), (.slice none 0 0), (.slice none 0 0), (.int .i64 (r.get 6).1)] #[(.string ⟨#[]⟩), (.string ⟨#[]⟩), (.slice none 0 0), (.int .i64 0), (.int .i64 0), (.int .i64 0), (.slice none 0 0), (.slice none 0 0), (.int .i64 0)] ((r.get 6).2) (fun _ => True)) := ⟨F1.out.set 8 (.int .i64 (r.get 6).1)⟩
  clear F1
  go_wp2_with fail
  clear ci5 fi5
  generalize x1.setCell ⟨g, 8, none⟩ (.int .i64 (r.get 6).1) = x1s at *
  clear x1
  refine (text_any E1.out.rd).mono ?_
  rintro e x2 ⟨rfl, h1, t1⟩
  have F2 := Fact.mk (E1.out.step h1 t1)
  clear h1 t1 E1
  have ci6 : x2.cell? ⟨g, 0, none⟩ = some (.string ⟨#[]⟩) := by rw [F2.out.c]; rfl
  have fi6 := F2.out.f 0
  have E2 : Fact (EAt w0 w (x2.setCell ⟨g, 0, none⟩ (.string (r.get 6).2.text.1)) p g w.heap.size 27 #[(.string (r.get 6).2.text.1), (.string ⟨#[]⟩), (.slice none 0 0), (.int .i64 0), (.int .i64 0), (.int .i64 0), (.slice none 0 0), (.slice none 0 0), (.int .i64 (r.get 6).1)] #[(.string ⟨#[]⟩), (.string ⟨#[]⟩), (.slice none 0 0), (.int .i64 0), (.int .i64 0), (.int .i64 0), (.slice none 0 0), (.slice none 0 0), (.int .i64 0)] ((r.get 6).2.text.2) (fun _ => True)) := ⟨F2.out.set 0 (.string (r.get 6).2.text.1)⟩
  clear F2
  go_wp2_with fail
  clear ci6 fi6
  generalize x2.setCell ⟨g, 0, none⟩ (.string (r.get 6).2.text.1) = x2s at *
  clear x2
  refine (get_any E2.out.rd 6 (by omega)).mono ?_
  rintro e x3 ⟨rfl, -, -, h1, t1⟩
  have F3 := Fact.mk (E2.out.step h1 t1)
  clear h1 t1 E2
  have ci7 : x3.cell? ⟨g, 3, none⟩ = some (.int .i64 0) := by rw [F3.out.c]; rfl
  have fi7 := F3.out.f 3
  have E3 : Fact (EAt w0 w (x3.setCell ⟨g, 3, none⟩ (.int .i64 ((r.get 6).2.text.2.get 6).1)) p g w.heap.size 27 #[(.string (r.get 6).2.text.1), (.string ⟨#[]⟩), (.slice none 0 0), (.int .i64 ((r.get 6).2.text.2.get 6).1), (.int .i64 0), (.int .i64 0), (.slice none 0 0), (.slice none 0 0), (.int .i64 (r.get 6).1)] #[(.string ⟨#[]⟩), (.string ⟨#[]⟩), (.slice none 0 0), (.int .i64 0), (.int .i64 0), (.int .i64 0), (.slice none 0 0), (.slice none 0 0), (.int .i64 0)] (((r.get 6).2.text.2.get 6).2) (fun _ => True)) := ⟨F3.out.set 3 (.int .i64 ((r.get 6).2.text.2.get 6).1)⟩
  clear F3
  go_wp2_with fail
  clear ci7 fi7
  generalize x3.setCell ⟨g, 3, none⟩ (.int .i64 ((r.get 6).2.text.2.get 6).1) = x3s at *
  clear x3
  refine (get_any E3.out.rd 6 (by omega)).mono ?_
  rintro e x4 ⟨rfl, -, -, h1, t1⟩
  have F4 := Fact.mk (E3.out.step h1 t1)
  clear h1 t1 E3
  have ci8 : x4.cell? ⟨g, 4, none⟩ = some (.int .i64 0) := by rw [F4.out.c]; rfl
  have fi8 := F4.out.f 4
  have E4 : Fact (EAt w0 w (x4.setCell ⟨g, 4, none⟩ (.int .i64 (((r.get 6).2.text.2.get 6).2.get 6).1)) p g w.heap.size 27 #[(.string (r.get 6).2.text.1), (.string ⟨#[]⟩), (.slice none 0 0), (.int .i64 ((r.get 6).2.text.2.get 6).1), (.int .i64 (((r.get 6).2.text.2.get 6).2.get 6).1), (.int .i64 0), (.slice none 0 0), (.slice none 0 0), (.int .i64 (r.get 6).1)] #[(.string ⟨#[]⟩), (.string ⟨#[]⟩), (.slice none 0 0), (.int .i64 0), (.int .i64 0), (.int .i64 0), (.slice none 0 0), (.slice none 0 0), (.int .i64 0)] ((((r.get 6).2.text.2.get 6).2.get 6).2) (fun _ => True)) := ⟨F4.out.set 4 (.int .i64 (((r.get 6).2.text.2.get 6).2.get 6).1)⟩
  clear F4
  go_wp2_with fail
  clear ci8 fi8
  generalize x4.setCell ⟨g, 4, none⟩ (.int .i64 (((r.get 6).2.text.2.get 6).2.get 6).1) = x4s at *
  clear x4
  refine (get_any E4.out.rd 6 (by omega)).mono ?_
  rintro e x5 ⟨rfl, -, -, h1, t1⟩
  have F5 := Fact.mk (E4.out.step h1 t1)
  clear h1 t1 E4
  have ci9 : x5.cell? ⟨g, 5, none⟩ = some (.int .i64 0) := by rw [F5.out.c]; rfl
  have fi9 := F5.out.f 5
  have E5 : Fact (EAt w0 w (x5.setCell ⟨g, 5, none⟩ (.int .i64 ((((r.get 6).2.text.2.get 6).2.get 6).2.get 6).1)) p g w.heap.size 27 #[(.string (r.get 6).2.text.1), (.string ⟨#[]⟩), (.slice none 0 0), (.int .i64 ((r.get 6).2.text.2.get 6).1), (.int .i64 (((r.get 6).2.text.2.get 6).2.get 6).1), (.int .i64 ((((r.get 6).2.text.2.get 6).2.get 6).2.get 6).1), (.slice none 0 0), (.slice none 0 0), (.int .i64 (r.get 6).1)] #[(.string ⟨#[]⟩), (.string ⟨#[]⟩), (.slice none 0 0), (.int .i64 0), (.int .i64 0), (.int .i64 0), (.slice none 0 0), (.slice none 0 0), (.int .i64 0)] (((((r.get 6).2.text.2.get 6).2.get 6).2.get 6).2) (fun _ => True)) := ⟨F5.out.set 5 (.int .i64 ((((r.get 6).2.text.2.get 6).2.get 6).2.get 6).1)⟩
  clear F5
  go_wp2_with fail
  clear ci9 fi9
  generalize x5.setCell ⟨g, 5, none⟩ (.int .i64 ((((r.get 6).2.text.2.get 6).2.get 6).2.get 6).1) = x5s at *
  clear x5
  refine (fields_any E5.out.rd).mono ?_
  rintro e x6 ⟨vf, rfl, hR, h1, t1⟩
  obtain ⟨A6, c6, rfl⟩ := Kd.R_slice hR
  have G6 := Fact.mk (E5.out.row (E5.out.step h1 t1) hR)
  clear h1 t1 hR E5
  have ci10 : x6.cell? ⟨g, 6, none⟩ = some (.slice none 0 0) := by rw [G6.out.c]; rfl
  have fi10 := G6.out.f 6
  have E6 : Fact (EAt w0 w (x6.setCell ⟨g, 6, none⟩ (.slice A6 ((Rd.fields (((((r.get 6).2.text.2.get 6).2.get 6).2.get 6).2.get 2).1.toNat (((((r.get 6).2.text.2.get 6).2.get 6).2.get 6).2.get 2).2).1).length c6)) p g w.heap.size 27 #[(.string (r.get 6).2.text.1), (.string ⟨#[]⟩), (.slice none 0 0), (.int .i64 ((r.get 6).2.text.2.get 6).1), (.int .i64 (((r.get 6).2.text.2.get 6).2.get 6).1), (.int .i64 ((((r.get 6).2.text.2.get 6).2.get 6).2.get 6).1), (.slice A6 ((Rd.fields (((((r.get 6).2.text.2.get 6).2.get 6).2.get 6).2.get 2).1.toNat (((((r.get 6).2.text.2.get 6).2.get 6).2.get 6).2.get 2).2).1).length c6), (.slice none 0 0), (.int .i64 (r.get 6).1)] #[(.string ⟨#[]⟩), (.string ⟨#[]⟩), (.slice none 0 0), (.int .i64 0), (.int .i64 0), (.int .i64 0), (.slice none 0 0), (.slice none 0 0), (.int .i64 0)] ((Rd.fields (((((r.get 6).2.text.2.get 6).2.get 6).2.get 6).2.get 2).1.toNat (((((r.get 6).2.text.2.get 6).2.get 6).2.get 6).2.get 2).2).2) (fun W => RowI fdK 53 w.heap.size g w.heap.size p (.slice A6 ((Rd.fields (((((r.get 6).2.text.2.get 6).2.get 6).2.get 6).2.get 2).1.toNat (((((r.get 6).2.text.2.get 6).2.get 6).2.get 6).2.get 2).2).1).length c6) ((Rd.fields (((((r.get 6).2.text.2.get 6).2.get 6).2.get 6).2.get 2).1.toNat (((((r.get 6).2.text.2.get 6).2.get 6).2.get 6).2.get 2).2).1) W ∧ (fun _ => True) W)) := ⟨G6.out.set 6 (.slice A6 ((Rd.fields (((((r.get 6).2.text.2.get 6).2.get 6).2.get 6).2.get 2).1.toNat (((((r.get 6).2.text.2.get 6).2.get 6).2.get 6).2.get 2).2).1).length c6)⟩
  clear G6
  go_wp2_with fail
  clear ci10 fi10
  generalize x6.setCell ⟨g, 6, none⟩ (.slice A6 ((Rd.fields (((((r.get 6).2.text.2.get 6).2.get 6).2.get 6).2.get 2).1.toNat (((((r.get 6).2.text.2.get 6).2.get 6).2.get 6).2.get 2).2).1).length c6) = x6s at *
  clear x6
  have hcv := fun W => print_bytes (P := Tryd.prog) 9 25 5 Tryd.underlying9 Tryd.underlying25 Tryd.underlying5 ((Rd.fields (((((r.get 6).2.text.2.get 6).2.get 6).2.get 6).2.get 2).1.toNat (((((r.get 6).2.text.2.get 6).2.get 6).2.get 6).2.get 2).2).2.text.1) W
  have HTS := Fact.mk (text_size E6.out.rd.rng)
  refine (text_any E6.out.rd).mono ?_
  rintro e y ⟨rfl, h1, t1⟩
  have Fb := Fact.mk (E6.out.step h1 t1)
  clear h1 t1 E6
  obtain ⟨sb, hsb⟩ : ∃ sb, (Rd.fields (((((r.get 6).2.text.2.get 6).2.get 6).2.get 6).2.get 2).1.toNat (((((r.get 6).2.text.2.get 6).2.get 6).2.get 6).2.get 2).2).2.text.1 = sb := ⟨_, rfl⟩
  have HSB := Fact.mk hsb
  rw [hsb] at hcv HTS ⊢
  clear hsb
  have hb := bytes_below (Below.refl y.heap.size y) (Nat.le_refl _) 5 sb
  have Gb := Fact.mk (((Fb.out.new hb).also (BytesI y sb) rfl (fun W W' hi ho => by
    obtain ⟨l1, l2, l3⟩ := Fb.out.lts
    have hlt : y.heap.size < W.heap.size := by
      rcases Nat.lt_or_ge y.heap.size W.heap.size with h | h
      · exact h
      · rw [BytesI, Lib.bytesWorld_at_new, Array.getElem?_eq_none h] at hi; cases hi
    exact (ho.block _ hlt (by rintro (h | h | h) <;> omega)).trans hi)))
  have hyg : Fact (w.heap.size ≤ y.heap.size) := ⟨Fb.out.tn.size⟩
  clear hb Fb
  have cb : (Lib.bytesWorld y 5 sb).cell? ⟨g, 7, none⟩ = some (.slice none 0 0) := by rw [Gb.out.c]; rfl
  have fb := Gb.out.f 7
  have Hb : Fact (EAt w0 w ((Lib.bytesWorld y 5 sb).setCell ⟨g, 7, none⟩ (.slice (some ⟨y.heap.size, 0, none⟩) sb.size (grownCap y sb.size 0 5))) p g w.heap.size 27 #[(.string (r.get 6).2.text.1), (.string ⟨#[]⟩), (.slice none 0 0), (.int .i64 ((r.get 6).2.text.2.get 6).1), (.int .i64 (((r.get 6).2.text.2.get 6).2.get 6).1), (.int .i64 ((((r.get 6).2.text.2.get 6).2.get 6).2.get 6).1), (.slice A6 ((Rd.fields (((((r.get 6).2.text.2.get 6).2.get 6).2.get 6).2.get 2).1.toNat (((((r.get 6).2.text.2.get 6).2.get 6).2.get 6).2.get 2).2).1).length c6), (.slice (some ⟨y.heap.size, 0, none⟩) sb.size (grownCap y sb.size 0 5)), (.int .i64 (r.get 6).1)] #[(.string ⟨#[]⟩), (.string ⟨#[]⟩), (.slice none 0 0), (.int .i64 0), (.int .i64 0), (.int .i64 0), (.slice none 0 0), (.slice none 0 0), (.int .i64 0)] ((Rd.fields (((((r.get 6).2.text.2.get 6).2.get 6).2.get 6).2.get 2).1.toNat (((((r.get 6).2.text.2.get 6).2.get 6).2.get 6).2.get 2).2).2.text.2) (fun W => BytesI y sb W ∧ (fun W => RowI fdK 53 w.heap.size g w.heap.size p (.slice A6 ((Rd.fields (((((r.get 6).2.text.2.get 6).2.get 6).2.get 6).2.get 2).1.toNat (((((r.get 6).2.text.2.get 6).2.get 6).2.get 6).2.get 2).2).1).length c6) ((Rd.fields (((((r.get 6).2.text.2.get 6).2.get 6).2.get 6).2.get 2).1.toNat (((((r.get 6).2.text.2.get 6).2.get 6).2.get 6).2.get 2).2).1) W ∧ (fun _ => True) W) W)) := ⟨Gb.out.set 7 (.slice (some ⟨y.heap.size, 0, none⟩) sb.size (grownCap y sb.size 0 5))⟩
  have z0 : (Lib.bytesWorld y 5 sb).cell? ⟨w.heap.size, 0, none⟩ = some (.string ⟨#[]⟩) := by rw [cell_of_row _ _ _ _ _ _ Gb.out.hq]; rfl
  have z1 : (Lib.bytesWorld y 5 sb).cell? ⟨w.heap.size, 1, none⟩ = some (.string ⟨#[]⟩) := by rw [cell_of_row _ _ _ _ _ _ Gb.out.hq]; rfl
  have z2 : (Lib.bytesWorld y 5 sb).cell? ⟨w.heap.size, 2, none⟩ = some (.slice none 0 0) := by rw [cell_of_row _ _ _ _ _ _ Gb.out.hq]; rfl
  have z3 : (Lib.bytesWorld y 5 sb).cell? ⟨w.heap.size, 3, none⟩ = some (.int .i64 0) := by rw [cell_of_row _ _ _ _ _ _ Gb.out.hq]; rfl
  have z4 : (Lib.bytesWorld y 5 sb).cell? ⟨w.heap.size, 4, none⟩ = some (.int .i64 0) := by rw [cell_of_row _ _ _ _ _ _ Gb.out.hq]; rfl
  have z5 : (Lib.bytesWorld y 5 sb).cell? ⟨w.heap.size, 5, none⟩ = some (.int .i64 0) := by rw [cell_of_row _ _ _ _ _ _ Gb.out.hq]; rfl
  have z6 : (Lib.bytesWorld y 5 sb).cell? ⟨w.heap.size, 6, none⟩ = some (.slice none 0 0) := by rw [cell_of_row _ _ _ _ _ _ Gb.out.hq]; rfl
  have z7 : (Lib.bytesWorld y 5 sb).cell? ⟨w.heap.size, 7, none⟩ = some (.slice none 0 0) := by rw [cell_of_row _ _ _ _ _ _ Gb.out.hq]; rfl
  have z8 : (Lib.bytesWorld y 5 sb).cell? ⟨w.heap.size, 8, none⟩ = some (.int .i64 0) := by rw [cell_of_row _ _ _ _ _ _ Gb.out.hq]; rfl
  have fz : ∀ i, (Lib.bytesWorld y 5 sb).frozen? ⟨w.heap.size, i, none⟩ = false := fun i => frozen_of_row _ _ _ _ _ Gb.out.hq
  have hgq : Fact (g ≠ w.heap.size) := ⟨Gb.out.ne⟩
  clear Gb
  have d0 : ((Lib.bytesWorld y 5 sb).setCell ⟨g, 7, none⟩ (.slice (some ⟨y.heap.size, 0, none⟩) sb.size (grownCap y sb.size 0 5))).cell? ⟨g, 0, none⟩ = some (.string (r.get 6).2.text.1) := by rw [Hb.out.c]; rfl
  have d1 : ((Lib.bytesWorld y 5 sb).setCell ⟨g, 7, none⟩ (.slice (some ⟨y.heap.size, 0, none⟩) sb.size (grownCap y sb.size 0 5))).cell? ⟨g, 1, none⟩ = some (.string ⟨#[]⟩) := by rw [Hb.out.c]; rfl
  have d2 : ((Lib.bytesWorld y 5 sb).setCell ⟨g, 7, none⟩ (.slice (some ⟨y.heap.size, 0, none⟩) sb.size (grownCap y sb.size 0 5))).cell? ⟨g, 2, none⟩ = some (.slice none 0 0) := by rw [Hb.out.c]; rfl
  have d3 : ((Lib.bytesWorld y 5 sb).setCell ⟨g, 7, none⟩ (.slice (some ⟨y.heap.size, 0, none⟩) sb.size (grownCap y sb.size 0 5))).cell? ⟨g, 3, none⟩ = some (.int .i64 ((r.get 6).2.text.2.get 6).1) := by rw [Hb.out.c]; rfl
  have d4 : ((Lib.bytesWorld y 5 sb).setCell ⟨g, 7, none⟩ (.slice (some ⟨y.heap.size, 0, none⟩) sb.size (grownCap y sb.size 0 5))).cell? ⟨g, 4, none⟩ = some (.int .i64 (((r.get 6).2.text.2.get 6).2.get 6).1) := by rw [Hb.out.c]; rfl
  have d5 : ((Lib.bytesWorld y 5 sb).setCell ⟨g, 7, none⟩ (.slice (some ⟨y.heap.size, 0, none⟩) sb.size (grownCap y sb.size 0 5))).cell? ⟨g, 5, none⟩ = some (.int .i64 ((((r.get 6).2.text.2.get 6).2.get 6).2.get 6).1) := by rw [Hb.out.c]; rfl
  have d6 : ((Lib.bytesWorld y 5 sb).setCell ⟨g, 7, none⟩ (.slice (some ⟨y.heap.size, 0, none⟩) sb.size (grownCap y sb.size 0 5))).cell? ⟨g, 6, none⟩ = some (.slice A6 ((Rd.fields (((((r.get 6).2.text.2.get 6).2.get 6).2.get 6).2.get 2).1.toNat (((((r.get 6).2.text.2.get 6).2.get 6).2.get 6).2.get 2).2).1).length c6) := by rw [Hb.out.c]; rfl
  have d7 : ((Lib.bytesWorld y 5 sb).setCell ⟨g, 7, none⟩ (.slice (some ⟨y.heap.size, 0, none⟩) sb.size (grownCap y sb.size 0 5))).cell? ⟨g, 7, none⟩ = some (.slice (some ⟨y.heap.size, 0, none⟩) sb.size (grownCap y sb.size 0 5)) := by rw [Hb.out.c]; rfl
  have d8 : ((Lib.bytesWorld y 5 sb).setCell ⟨g, 7, none⟩ (.slice (some ⟨y.heap.size, 0, none⟩) sb.size (grownCap y sb.size 0 5))).cell? ⟨g, 8, none⟩ = some (.int .i64 (r.get 6).1) := by rw [Hb.out.c]; rfl
  generalize hcap : grownCap y sb.size 0 5 = cap at *
  generalize hye : y.heap.size = ye at *
  go_wp2_with fail
  obtain ⟨hW, hO⟩ := put9 ((Lib.bytesWorld y 5 sb).setCell ⟨g, 7, none⟩ (.slice (some ⟨ye, 0, none⟩) sb.size cap)) w.heap.size (.string (r.get 6).2.text.1) (.string ⟨#[]⟩) (.slice none 0 0) (.int .i64 ((r.get 6).2.text.2.get 6).1) (.int .i64 (((r.get 6).2.text.2.get 6).2.get 6).1) (.int .i64 ((((r.get 6).2.text.2.get 6).2.get 6).2.get 6).1) (.slice A6 ((Rd.fields (((((r.get 6).2.text.2.get 6).2.get 6).2.get 6).2.get 2).1.toNat (((((r.get 6).2.text.2.get 6).2.get 6).2.get 6).2.get 2).2).1).length c6) (.slice (some ⟨ye, 0, none⟩) sb.size cap) (.int .i64 (r.get 6).1) Hb.out.hq
  obtain ⟨hR, hT, hI⟩ := Hb.out.setq rfl hO hW
  have hlt : y.heap.size < (Lib.bytesWorld y 5 sb).heap.size := by rw [Lib.bytesWorld_size]; omega
  have hlt2 := Nat.lt_of_lt_of_le hlt (Nat.le_trans (Only.setCell (S := fun _ => True) (Lib.bytesWorld y 5 sb) trivial (.slice (some ⟨ye, 0, none⟩) sb.size cap) (a := ⟨g, 7, none⟩)).size hO.size)
  have hcap2 : sb.size ≤ cap := by rw [← hcap]; exact grownCap_ge y sb.size 0 _
  refine bodyPost_ret (results_cell_row rfl _ _ w.heap.size 27 #[(.string (r.get 6).2.text.1), (.string ⟨#[]⟩), (.slice none 0 0), (.int .i64 ((r.get 6).2.text.2.get 6).1), (.int .i64 (((r.get 6).2.text.2.get 6).2.get 6).1), (.int .i64 ((((r.get 6).2.text.2.get 6).2.get 6).2.get 6).1), (.slice A6 ((Rd.fields (((((r.get 6).2.text.2.get 6).2.get 6).2.get 6).2.get 2).1.toNat (((((r.get 6).2.text.2.get 6).2.get 6).2.get 6).2.get 2).2).1).length c6), (.slice (some ⟨ye, 0, none⟩) sb.size cap), (.int .i64 (r.get 6).1)] (0, 0) _ rfl hW Tryd.underlying27 rfl (by kernel_rfl)) rfl ?_
  have hbody := Row.bytes (b := w.heap.size) hI.1 (by rw [hye]; exact hyg.out) hlt2 HTS.out hcap2
  rw [hye] at hbody
  simp only [tailE, Rd.fieldsOf]
  clear hW hO Hb
  refine ⟨(.slice none 0 0), (.slice A6 ((Rd.fields (((((r.get 6).2.text.2.get 6).2.get 6).2.get 6).2.get 2).1.toNat (((((r.get 6).2.text.2.get 6).2.get 6).2.get 6).2.get 2).2).1).length c6), (.slice (some ⟨ye, 0, none⟩) sb.size cap), ?_, ?_, ?_, ?_, ?_, ?_⟩
  · with_reducible rfl
  · exact (Row.nil _ _ _)
  · exact Row.of_own hI.2.1
  · (rw [HSB.out]; exact hbody)
  · exact hR
  · exact hT
set_option maxHeartbeats 4000000 in
set_option maxRecDepth 100000 in
theorem entry_v3 {w0 w : World} {p : Nat} {r : Rd} (h : IsRd w0 w p r) :
    Calls Tryd.prog 37 #[.pointer (some ⟨p, 0, none⟩), .int .i64 3] w fun e w' => ∃ vn vf vb, e = .returned (.agg #[.string (r.entry 3).1.key, .string (r.entry 3).1.second, vn, .int .i64 (r.entry 3).1.asked, .int .i64 (r.entry 3).1.came, .int .i64 (r.entry 3).1.status, vf, vb, .int .i64 (r.entry 3).1.gen]) ∧
      Row Kd.string w.heap.size w' vn (r.entry 3).1.names ∧ Row fdK w.heap.size w' vf (r.entry 3).1.fields ∧ Row (Kd.int .u8) w.heap.size w' vb (r.entry 3).1.body ∧ IsRd w0 w' p (r.entry 3).2 ∧ Turn p w w' := by
  rw [entry_three r]
  have E0 : Fact (EAt w0 w ((w.alloc (.cells #[(.string ⟨#[]⟩), (.string ⟨#[]⟩), (.slice none 0 0), (.int .i64 0), (.int .i64 0), (.int .i64 0), (.slice none 0 0), (.slice none 0 0), (.int .i64 0)] 27)).alloc (.cells #[(.string ⟨#[]⟩), (.string ⟨#[]⟩), (.slice none 0 0), (.int .i64 0), (.int .i64 0), (.int .i64 0), (.slice none 0 0), (.slice none 0 0), (.int .i64 1)] 27)) p (w.heap.size + 1) w.heap.size 27 #[(.string ⟨#[]⟩), (.string ⟨#[]⟩), (.slice none 0 0), (.int .i64 0), (.int .i64 0), (.int .i64 0), (.slice none 0 0), (.slice none 0 0), (.int .i64 1)] #[(.string ⟨#[]⟩), (.string ⟨#[]⟩), (.slice none 0 0), (.int .i64 0), (.int .i64 0), (.int .i64 0), (.slice none 0 0), (.slice none 0 0), (.int .i64 0)] r (fun _ => True)) := by
    have hp := h.lt
    have b1 : Below w.heap.size w ((w.alloc (.cells #[(.string ⟨#[]⟩), (.string ⟨#[]⟩), (.slice none 0 0), (.int .i64 0), (.int .i64 0), (.int .i64 0), (.slice none 0 0), (.slice none 0 0), (.int .i64 0)] 27)).alloc (.cells #[(.string ⟨#[]⟩), (.string ⟨#[]⟩), (.slice none 0 0), (.int .i64 0), (.int .i64 0), (.int .i64 0), (.slice none 0 0), (.slice none 0 0), (.int .i64 1)] 27)) := ((Below.refl _ _).alloc (Nat.le_refl _) _).alloc (by simp) _
    refine ⟨⟨h.new b1, Only.of_below b1 _, heap_alloc2_new w _ _, ?_, by omega, Nat.le_refl _, by omega, by omega, by omega, h.bl.size, trivial, fun _ _ _ _ => trivial⟩⟩
    exact (Below.heap_alloc _ _ _ (by simp)).trans (heap_alloc_new w _)
  clear h
  go_enter Tryd.func37, Tryd.ntmps37
  go_wp2_with fail
  generalize hwa : ((w.alloc (.cells #[(.string ⟨#[]⟩), (.string ⟨#[]⟩), (.slice none 0 0), (.int .i64 0), (.int .i64 0), (.int .i64 0), (.slice none 0 0), (.slice none 0 0), (.int .i64 0)] 27)).alloc (.cells #[(.string ⟨#[]⟩), (.string ⟨#[]⟩), (.slice none 0 0), (.int .i64 0), (.int .i64 0), (.int .i64 0), (.slice none 0 0), (.slice none 0 0), (.int .i64 1)] 27)) = wa at *
  clear hwa
  generalize hgg : w.heap.size + 1 = g at *
  refine (text_any E0.out.rd).mono ?_
  rintro e x1 ⟨rfl, h1, t1⟩
  have F1 := Fact.mk (E0.out.step h1 t1)
  clear h1 t1 E0
  have ci11 : x1.cell? ⟨g, 1, none⟩ = some (.string ⟨#[]⟩) := by rw [F1.out.c]; rfl
  have fi11 := F1.out.f 1
  have E1 : Fact (EAt w0 w (x1.setCell ⟨g, 1, none⟩ (.string r.text.1)) p g w.heap.size 27 #[(.string ⟨#[]⟩), (.string r.text.1), (.slice none 0 0), (.int .i64 0), (.int .i64 0), (.int .i64 0), (.slice none 0 0), (.slice none 0 0), (.int .i64 1)] #[(.string ⟨#[]⟩), (.string ⟨#[]⟩), (.slice none 0 0), (.int .i64 0), (.int .i64 0), (.int .i64 0), (.slice none 0 0), (.slice none 0 0), (.int .i64 0)] (r.text.2) (fun _ => True)) := ⟨F1.out.set 1 (.string r.text.1)⟩
  clear F1
  go_wp2_with fail
  clear ci11 fi11
  generalize x1.setCell ⟨g, 1, none⟩ (.string r.text.1) = x1s at *
  clear x1
  refine (texts_any E1.out.rd).mono ?_
  rintro e x2 ⟨vn, rfl, hR, h1, t1⟩
  obtain ⟨A2, c2, rfl⟩ := Kd.R_slice hR
  have G2 := Fact.mk (E1.out.row (E1.out.step h1 t1) hR)
  clear h1 t1 hR E1
  have ci12 : x2.cell? ⟨g, 2, none⟩ = some (.slice none 0 0) := by rw [G2.out.c]; rfl
  have fi12 := G2.out.f 2
  have E2 : Fact (EAt w0 w (x2.setCell ⟨g, 2, none⟩ (.slice A2 ((Rd.texts (r.text.2.get 2).1.toNat (r.text.2.get 2).2).1).length c2)) p g w.heap.size 27 #[(.string ⟨#[]⟩), (.string r.text.1), (.slice A2 ((Rd.texts (r.text.2.get 2).1.toNat (r.text.2.get 2).2).1).length c2), (.int .i64 0), (.int .i64 0), (.int .i64 0), (.slice none 0 0), (.slice none 0 0), (.int .i64 1)] #[(.string ⟨#[]⟩), (.string ⟨#[]⟩), (.slice none 0 0), (.int .i64 0), (.int .i64 0), (.int .i64 0), (.slice none 0 0), (.slice none 0 0), (.int .i64 0)] ((Rd.texts (r.text.2.get 2).1.toNat (r.text.2.get 2).2).2) (fun W => RowI Kd.string 9 w.heap.size g w.heap.size p (.slice A2 ((Rd.texts (r.text.2.get 2).1.toNat (r.text.2.get 2).2).1).length c2) ((Rd.texts (r.text.2.get 2).1.toNat (r.text.2.get 2).2).1) W ∧ (fun _ => True) W)) := ⟨G2.out.set 2 (.slice A2 ((Rd.texts (r.text.2.get 2).1.toNat (r.text.2.get 2).2).1).length c2)⟩
  clear G2
  go_wp2_with fail
  clear ci12 fi12
  generalize x2.setCell ⟨g, 2, none⟩ (.slice A2 ((Rd.texts (r.text.2.get 2).1.toNat (r.text.2.get 2).2).1).length c2) = x2s at *
  clear x2
  refine (get_any E2.out.rd 6 (by omega)).mono ?_
  rintro e x3 ⟨rfl, -, -, h1, t1⟩
  have F3 := Fact.mk (E2.out.step h1 t1)
  clear h1 t1 E2
  have ci13 : x3.cell? ⟨g, 8, none⟩ = some (.int .i64 1) := by rw [F3.out.c]; rfl
  have fi13 := F3.out.f 8
  have E3 : Fact (EAt w0 w (x3.setCell ⟨g, 8, none⟩ (.int .i64 ((Rd.texts (r.text.2.get 2).1.toNat (r.text.2.get 2).2).2.get 6).1)) p g w.heap.size 27 #[(.string ⟨#[]⟩), (.string r.text.1), (.slice A2 ((Rd.texts (r.text.2.get 2).1.toNat (r.text.2.get 2).2).1).length c2), (.int .i64 0), (.int .i64 0), (.int .i64 0), (.slice none 0 0), (.slice none 0 0), (.int .i64 ((Rd.texts (r.text.2.get 2).1.toNat (r.text.2.get 2).2).2.get 6).1)] #[(.string ⟨#[]⟩), (.string ⟨#[]⟩), (.slice none 0 0), (.int .i64 0), (.int .i64 0), (.int .i64 0), (.slice none 0 0), (.slice none 0 0), (.int .i64 0)] (((Rd.texts (r.text.2.get 2).1.toNat (r.text.2.get 2).2).2.get 6).2) (fun W => RowI Kd.string 9 w.heap.size g w.heap.size p (.slice A2 ((Rd.texts (r.text.2.get 2).1.toNat (r.text.2.get 2).2).1).length c2) ((Rd.texts (r.text.2.get 2).1.toNat (r.text.2.get 2).2).1) W ∧ (fun _ => True) W)) := ⟨F3.out.set 8 (.int .i64 ((Rd.texts (r.text.2.get 2).1.toNat (r.text.2.get 2).2).2.get 6).1)⟩
  clear F3
  go_wp2_with fail
  clear ci13 fi13
  generalize x3.setCell ⟨g, 8, none⟩ (.int .i64 ((Rd.texts (r.text.2.get 2).1.toNat (r.text.2.get 2).2).2.get 6).1) = x3s at *
  clear x3
  refine (text_any E3.out.rd).mono ?_
  rintro e x4 ⟨rfl, h1, t1⟩
  have F4 := Fact.mk (E3.out.step h1 t1)
  clear h1 t1 E3
  have ci14 : x4.cell? ⟨g, 0, none⟩ = some (.string ⟨#[]⟩) := by rw [F4.out.c]; rfl
  have fi14 := F4.out.f 0
  have E4 : Fact (EAt w0 w (x4.setCell ⟨g, 0, none⟩ (.string ((Rd.texts (r.text.2.get 2).1.toNat (r.text.2.get 2).2).2.get 6).2.text.1)) p g w.heap.size 27 #[(.string ((Rd.texts (r.text.2.get 2).1.toNat (r.text.2.get 2).2).2.get 6).2.text.1), (.string r.text.1), (.slice A2 ((Rd.texts (r.text.2.get 2).1.toNat (r.text.2.get 2).2).1).length c2), (.int .i64 0), (.int .i64 0), (.int .i64 0), (.slice none 0 0), (.slice none 0 0), (.int .i64 ((Rd.texts (r.text.2.get 2).1.toNat (r.text.2.get 2).2).2.get 6).1)] #[(.string ⟨#[]⟩), (.string ⟨#[]⟩), (.slice none 0 0), (.int .i64 0), (.int .i64 0), (.int .i64 0), (.slice none 0 0), (.slice none 0 0), (.int .i64 0)] (((Rd.texts (r.text.2.get 2).1.toNat (r.text.2.get 2).2).2.get 6).2.text.2) (fun W => RowI Kd.string 9 w.heap.size g w.heap.size p (.slice A2 ((Rd.texts (r.text.2.get 2).1.toNat (r.text.2.get 2).2).1).length c2) ((Rd.texts (r.text.2.get 2).1.toNat (r.text.2.get 2).2).1) W ∧ (fun _ => True) W)) := ⟨F4.out.set 0 (.string ((Rd.texts (r.text.2.get 2).1.toNat (r.text.2.get 2).2).2.get 6).2.text.1)⟩
  clear F4
  go_wp2_with fail
  clear ci14 fi14
  generalize x4.setCell ⟨g, 0, none⟩ (.string ((Rd.texts (r.text.2.get 2).1.toNat (r.text.2.get 2).2).2.get 6).2.text.1) = x4s at *
  clear x4
  refine (get_any E4.out.rd 6 (by omega)).mono ?_
  rintro e x5 ⟨rfl, -, -, h1, t1⟩
  have F5 := Fact.mk (E4.out.step h1 t1)
  clear h1 t1 E4
  have ci15 : x5.cell? ⟨g, 3, none⟩ = some (.int .i64 0) := by rw [F5.out.c]; rfl
  have fi15 := F5.out.f 3
  have E5 : Fact (EAt w0 w (x5.setCell ⟨g, 3, none⟩ (.int .i64 (((Rd.texts (r.text.2.get 2).1.toNat (r.text.2.get 2).2).2.get 6).2.text.2.get 6).1)) p g w.heap.size 27 #[(.string ((Rd.texts (r.text.2.get 2).1.toNat (r.text.2.get 2).2).2.get 6).2.text.1), (.string r.text.1), (.slice A2 ((Rd.texts (r.text.2.get 2).1.toNat (r.text.2.get 2).2).1).length c2), (.int .i64 (((Rd.texts (r.text.2.get 2).1.toNat (r.text.2.get 2).2).2.get 6).2.text.2.get 6).1), (.int .i64 0), (.int .i64 0), (.slice none 0 0), (.slice none 0 0), (.int .i64 ((Rd.texts (r.text.2.get 2).1.toNat (r.text.2.get 2).2).2.get 6).1)] #[(.string ⟨#[]⟩), (.string ⟨#[]⟩), (.slice none 0 0), (.int .i64 0), (.int .i64 0), (.int .i64 0), (.slice none 0 0), (.slice none 0 0), (.int .i64 0)] ((((Rd.texts (r.text.2.get 2).1.toNat (r.text.2.get 2).2).2.get 6).2.text.2.get 6).2) (fun W => RowI Kd.string 9 w.heap.size g w.heap.size p (.slice A2 ((Rd.texts (r.text.2.get 2).1.toNat (r.text.2.get 2).2).1).length c2) ((Rd.texts (r.text.2.get 2).1.toNat (r.text.2.get 2).2).1) W ∧ (fun _ => True) W)) := ⟨F5.out.set 3 (.int .i64 (((Rd.texts (r.text.2.get 2).1.toNat (r.text.2.get 2).2).2.get 6).2.text.2.get 6).1)⟩
  clear F5
  go_wp2_with fail
  clear ci15 fi15
  generalize x5.setCell ⟨g, 3, none⟩ (.int .i64 (((Rd.texts (r.text.2.get 2).1.toNat (r.text.2.get 2).2).2.get 6).2.text.2.get 6).1) = x5s at *
  clear x5
  refine (get_any E5.out.rd 6 (by omega)).mono ?_
  rintro e x6 ⟨rfl, -, -, h1, t1⟩
  have F6 := Fact.mk (E5.out.step h1 t1)
  clear h1 t1 E5
  have ci16 : x6.cell? ⟨g, 4, none⟩ = some (.int .i64 0) := by rw [F6.out.c]; rfl
  have fi16 := F6.out.f 4
  have E6 : Fact (EAt w0 w (x6.setCell ⟨g, 4, none⟩ (.int .i64 ((((Rd.texts (r.text.2.get 2).1.toNat (r.text.2.get 2).2).2.get 6).2.text.2.get 6).2.get 6).1)) p g w.heap.size 27 #[(.string ((Rd.texts (r.text.2.get 2).1.toNat (r.text.2.get 2).2).2.get 6).2.text.1), (.string r.text.1), (.slice A2 ((Rd.texts (r.text.2.get 2).1.toNat (r.text.2.get 2).2).1).length c2), (.int .i64 (((Rd.texts (r.text.2.get 2).1.toNat (r.text.2.get 2).2).2.get 6).2.text.2.get 6).1), (.int .i64 ((((Rd.texts (r.text.2.get 2).1.toNat (r.text.2.get 2).2).2.get 6).2.text.2.get 6).2.get 6).1), (.int .i64 0), (.slice none 0 0), (.slice none 0 0), (.int .i64 ((Rd.texts (r.text.2.get 2).1.toNat (r.text.2.get 2).2).2.get 6).1)] #[(.string ⟨#[]⟩), (.string ⟨#[]⟩), (.slice none 0 0), (.int .i64 0), (.int .i64 0), (.int .i64 0), (.slice none 0 0), (.slice none 0 0), (.int .i64 0)] (((((Rd.texts (r.text.2.get 2).1.toNat (r.text.2.get 2).2).2.get 6).2.text.2.get 6).2.get 6).2) (fun W => RowI Kd.string 9 w.heap.size g w.heap.size p (.slice A2 ((Rd.texts (r.text.2.get 2).1.toNat (r.text.2.get 2).2).1).length c2) ((Rd.texts (r.text.2.get 2).1.toNat (r.text.2.get 2).2).1) W ∧ (fun _ => True) W)) := ⟨F6.out.set 4 (.int .i64 ((((Rd.texts (r.text.2.get 2).1.toNat (r.text.2.get 2).2).2.get 6).2.text.2.get 6).2.get 6).1)⟩
  clear F6
  go_wp2_with fail
  clear ci16 fi16
  generalize x6.setCell ⟨g, 4, none⟩ (.int .i64 ((((Rd.texts (r.text.2.get 2).1.toNat (r.text.2.get 2).2).2.get 6).2.text.2.get 6).2.get 6).1) = x6s at *
  clear x6
  refine (get_any E6.out.rd 6 (by omega)).mono ?_
  rintro e x7 ⟨rfl, -, -, h1, t1⟩
  have F7 := Fact.mk (E6.out.step h1 t1)
  clear h1 t1 E6
  have ci17 : x7.cell? ⟨g, 5, none⟩ = some (.int .i64 0) := by rw [F7.out.c]; rfl
  have fi17 := F7.out.f 5
  have E7 : Fact (EAt w0 w (x7.setCell ⟨g, 5, none⟩ (.int .i64 (((((Rd.texts (r.text.2.get 2).1.toNat (r.text.2.get 2).2).2.get 6).2.text.2.get 6).2.get 6).2.get 6).1)) p g w.heap.size 27 #[(.string ((Rd.texts (r.text.2.get 2).1.toNat (r.text.2.get 2).2).2.get 6).2.text.1), (.string r.text.1), (.slice A2 ((Rd.texts (r.text.2.get 2).1.toNat (r.text.2.get 2).2).1).length c2), (.int .i64 (((Rd.texts (r.text.2.get 2).1.toNat (r.text.2.get 2).2).2.get 6).2.text.2.get 6).1), (.int .i64 ((((Rd.texts (r.text.2.get 2).1.toNat (r.text.2.get 2).2).2.get 6).2.text.2.get 6).2.get 6).1), (.int .i64 (((((Rd.texts (r.text.2.get 2).1.toNat (r.text.2.get 2).2).2.get 6).2.text.2.get 6).2.get 6).2.get 6).1), (.slice none 0 0), (.slice none 0 0), (.int .i64 ((Rd.texts (r.text.2.get 2).1.toNat (r.text.2.get 2).2).2.get 6).1)] #[(.string ⟨#[]⟩), (.string ⟨#[]⟩), (.slice none 0 0), (.int .i64 0), (.int .i64 0), (.int .i64 0), (.slice none 0 0), (.slice none 0 0), (.int .i64 0)] ((((((Rd.texts (r.text.2.get 2).1.toNat (r.text.2.get 2).2).2.get 6).2.text.2.get 6).2.get 6).2.get 6).2) (fun W => RowI Kd.string 9 w.heap.size g w.heap.size p (.slice A2 ((Rd.texts (r.text.2.get 2).1.toNat (r.text.2.get 2).2).1).length c2) ((Rd.texts (r.text.2.get 2).1.toNat (r.text.2.get 2).2).1) W ∧ (fun _ => True) W)) := ⟨F7.out.set 5 (.int .i64 (((((Rd.texts (r.text.2.get 2).1.toNat (r.text.2.get 2).2).2.get 6).2.text.2.get 6).2.get 6).2.get 6).1)⟩
  clear F7
  go_wp2_with fail
  clear ci17 fi17
  generalize x7.setCell ⟨g, 5, none⟩ (.int .i64 (((((Rd.texts (r.text.2.get 2).1.toNat (r.text.2.get 2).2).2.get 6).2.text.2.get 6).2.get 6).2.get 6).1) = x7s at *
  clear x7
  refine (fields_any E7.out.rd).mono ?_
  rintro e x8 ⟨vf, rfl, hR, h1, t1⟩
  obtain ⟨A8, c8, rfl⟩ := Kd.R_slice hR
  have G8 := Fact.mk (E7.out.row (E7.out.step h1 t1) hR)
  clear h1 t1 hR E7
  have ci18 : x8.cell? ⟨g, 6, none⟩ = some (.slice none 0 0) := by rw [G8.out.c]; rfl
  have fi18 := G8.out.f 6
  have E8 : Fact (EAt w0 w (x8.setCell ⟨g, 6, none⟩ (.slice A8 ((Rd.fields ((((((Rd.texts (r.text.2.get 2).1.toNat (r.text.2.get 2).2).2.get 6).2.text.2.get 6).2.get 6).2.get 6).2.get 2).1.toNat ((((((Rd.texts (r.text.2.get 2).1.toNat (r.text.2.get 2).2).2.get 6).2.text.2.get 6).2.get 6).2.get 6).2.get 2).2).1).length c8)) p g w.heap.size 27 #[(.string ((Rd.texts (r.text.2.get 2).1.toNat (r.text.2.get 2).2).2.get 6).2.text.1), (.string r.text.1), (.slice A2 ((Rd.texts (r.text.2.get 2).1.toNat (r.text.2.get 2).2).1).length c2), (.int .i64 (((Rd.texts (r.text.2.get 2).1.toNat (r.text.2.get 2).2).2.get 6).2.text.2.get 6).1), (.int .i64 ((((Rd.texts (r.text.2.get 2).1.toNat (r.text.2.get 2).2).2.get 6).2.text.2.get 6).2.get 6).1), (.int .i64 (((((Rd.texts (r.text.2.get 2).1.toNat (r.text.2.get 2).2).2.get 6).2.text.2.get 6).2.get 6).2.get 6).1), (.slice A8 ((Rd.fields ((((((Rd.texts (r.text.2.get 2).1.toNat (r.text.2.get 2).2).2.get 6).2.text.2.get 6).2.get 6).2.get 6).2.get 2).1.toNat ((((((Rd.texts (r.text.2.get 2).1.toNat (r.text.2.get 2).2).2.get 6).2.text.2.get 6).2.get 6).2.get 6).2.get 2).2).1).length c8), (.slice none 0 0), (.int .i64 ((Rd.texts (r.text.2.get 2).1.toNat (r.text.2.get 2).2).2.get 6).1)] #[(.string ⟨#[]⟩), (.string ⟨#[]⟩), (.slice none 0 0), (.int .i64 0), (.int .i64 0), (.int .i64 0), (.slice none 0 0), (.slice none 0 0), (.int .i64 0)] ((Rd.fields ((((((Rd.texts (r.text.2.get 2).1.toNat (r.text.2.get 2).2).2.get 6).2.text.2.get 6).2.get 6).2.get 6).2.get 2).1.toNat ((((((Rd.texts (r.text.2.get 2).1.toNat (r.text.2.get 2).2).2.get 6).2.text.2.get 6).2.get 6).2.get 6).2.get 2).2).2) (fun W => RowI fdK 53 w.heap.size g w.heap.size p (.slice A8 ((Rd.fields ((((((Rd.texts (r.text.2.get 2).1.toNat (r.text.2.get 2).2).2.get 6).2.text.2.get 6).2.get 6).2.get 6).2.get 2).1.toNat ((((((Rd.texts (r.text.2.get 2).1.toNat (r.text.2.get 2).2).2.get 6).2.text.2.get 6).2.get 6).2.get 6).2.get 2).2).1).length c8) ((Rd.fields ((((((Rd.texts (r.text.2.get 2).1.toNat (r.text.2.get 2).2).2.get 6).2.text.2.get 6).2.get 6).2.get 6).2.get 2).1.toNat ((((((Rd.texts (r.text.2.get 2).1.toNat (r.text.2.get 2).2).2.get 6).2.text.2.get 6).2.get 6).2.get 6).2.get 2).2).1) W ∧ (fun W => RowI Kd.string 9 w.heap.size g w.heap.size p (.slice A2 ((Rd.texts (r.text.2.get 2).1.toNat (r.text.2.get 2).2).1).length c2) ((Rd.texts (r.text.2.get 2).1.toNat (r.text.2.get 2).2).1) W ∧ (fun _ => True) W) W)) := ⟨G8.out.set 6 (.slice A8 ((Rd.fields ((((((Rd.texts (r.text.2.get 2).1.toNat (r.text.2.get 2).2).2.get 6).2.text.2.get 6).2.get 6).2.get 6).2.get 2).1.toNat ((((((Rd.texts (r.text.2.get 2).1.toNat (r.text.2.get 2).2).2.get 6).2.text.2.get 6).2.get 6).2.get 6).2.get 2).2).1).length c8)⟩
  clear G8
  go_wp2_with fail
  clear ci18 fi18
  generalize x8.setCell ⟨g, 6, none⟩ (.slice A8 ((Rd.fields ((((((Rd.texts (r.text.2.get 2).1.toNat (r.text.2.get 2).2).2.get 6).2.text.2.get 6).2.get 6).2.get 6).2.get 2).1.toNat ((((((Rd.texts (r.text.2.get 2).1.toNat (r.text.2.get 2).2).2.get 6).2.text.2.get 6).2.get 6).2.get 6).2.get 2).2).1).length c8) = x8s at *
  clear x8
  have hcv := fun W => print_bytes (P := Tryd.prog) 9 25 5 Tryd.underlying9 Tryd.underlying25 Tryd.underlying5 ((Rd.fields ((((((Rd.texts (r.text.2.get 2).1.toNat (r.text.2.get 2).2).2.get 6).2.text.2.get 6).2.get 6).2.get 6).2.get 2).1.toNat ((((((Rd.texts (r.text.2.get 2).1.toNat (r.text.2.get 2).2).2.get 6).2.text.2.get 6).2.get 6).2.get 6).2.get 2).2).2.text.1) W
  have HTS := Fact.mk (text_size E8.out.rd.rng)
  refine (text_any E8.out.rd).mono ?_
  rintro e y ⟨rfl, h1, t1⟩
  have Fb := Fact.mk (E8.out.step h1 t1)
  clear h1 t1 E8
  obtain ⟨sb, hsb⟩ : ∃ sb, (Rd.fields ((((((Rd.texts (r.text.2.get 2).1.toNat (r.text.2.get 2).2).2.get 6).2.text.2.get 6).2.get 6).2.get 6).2.get 2).1.toNat ((((((Rd.texts (r.text.2.get 2).1.toNat (r.text.2.get 2).2).2.get 6).2.text.2.get 6).2.get 6).2.get 6).2.get 2).2).2.text.1 = sb := ⟨_, rfl⟩
  have HSB := Fact.mk hsb
  rw [hsb] at hcv HTS ⊢
  clear hsb
  have hb := bytes_below (Below.refl y.heap.size y) (Nat.le_refl _) 5 sb
  have Gb := Fact.mk (((Fb.out.new hb).also (BytesI y sb) rfl (fun W W' hi ho => by
    obtain ⟨l1, l2, l3⟩ := Fb.out.lts
    have hlt : y.heap.size < W.heap.size := by
      rcases Nat.lt_or_ge y.heap.size W.heap.size with h | h
      · exact h
      · rw [BytesI, Lib.bytesWorld_at_new, Array.getElem?_eq_none h] at hi; cases hi
    exact (ho.block _ hlt (by rintro (h | h | h) <;> omega)).trans hi)))
  have hyg : Fact (w.heap.size ≤ y.heap.size) := ⟨Fb.out.tn.size⟩
  clear hb Fb
  have cb : (Lib.bytesWorld y 5 sb).cell? ⟨g, 7, none⟩ = some (.slice none 0 0) := by rw [Gb.out.c]; rfl
  have fb := Gb.out.f 7
  have Hb : Fact (EAt w0 w ((Lib.bytesWorld y 5 sb).setCell ⟨g, 7, none⟩ (.slice (some ⟨y.heap.size, 0, none⟩) sb.size (grownCap y sb.size 0 5))) p g w.heap.size 27 #[(.string ((Rd.texts (r.text.2.get 2).1.toNat (r.text.2.get 2).2).2.get 6).2.text.1), (.string r.text.1), (.slice A2 ((Rd.texts (r.text.2.get 2).1.toNat (r.text.2.get 2).2).1).length c2), (.int .i64 (((Rd.texts (r.text.2.get 2).1.toNat (r.text.2.get 2).2).2.get 6).2.text.2.get 6).1), (.int .i64 ((((Rd.texts (r.text.2.get 2).1.toNat (r.text.2.get 2).2).2.get 6).2.text.2.get 6).2.get 6).1), (.int .i64 (((((Rd.texts (r.text.2.get 2).1.toNat (r.text.2.get 2).2).2.get 6).2.text.2.get 6).2.get 6).2.get 6).1), (.slice A8 ((Rd.fields ((((((Rd.texts (r.text.2.get 2).1.toNat (r.text.2.get 2).2).2.get 6).2.text.2.get 6).2.get 6).2.get 6).2.get 2).1.toNat ((((((Rd.texts (r.text.2.get 2).1.toNat (r.text.2.get 2).2).2.get 6).2.text.2.get 6).2.get 6).2.get 6).2.get 2).2).1).length c8), (.slice (some ⟨y.heap.size, 0, none⟩) sb.size (grownCap y sb.size 0 5)), (.int .i64 ((Rd.texts (r.text.2.get 2).1.toNat (r.text.2.get 2).2).2.get 6).1)] #[(.string ⟨#[]⟩), (.string ⟨#[]⟩), (.slice none 0 0), (.int .i64 0), (.int .i64 0), (.int .i64 0), (.slice none 0 0), (.slice none 0 0), (.int .i64 0)] ((Rd.fields ((((((Rd.texts (r.text.2.get 2).1.toNat (r.text.2.get 2).2).2.get 6).2.text.2.get 6).2.get 6).2.get 6).2.get 2).1.toNat ((((((Rd.texts (r.text.2.get 2).1.toNat (r.text.2.get 2).2).2.get 6).2.text.2.get 6).2.get 6).2.get 6).2.get 2).2).2.text.2) (fun W => BytesI y sb W ∧ (fun W => RowI fdK 53 w.heap.size g w.heap.size p (.slice A8 ((Rd.fields ((((((Rd.texts (r.text.2.get 2).1.toNat (r.text.2.get 2).2).2.get 6).2.text.2.get 6).2.get 6).2.get 6).2.get 2).1.toNat ((((((Rd.texts (r.text.2.get 2).1.toNat (r.text.2.get 2).2).2.get 6).2.text.2.get 6).2.get 6).2.get 6).2.get 2).2).1).length c8) ((Rd.fields ((((((Rd.texts (r.text.2.get 2).1.toNat (r.text.2.get 2).2).2.get 6).2.text.2.get 6).2.get 6).2.get 6).2.get 2).1.toNat ((((((Rd.texts (r.text.2.get 2).1.toNat (r.text.2.get 2).2).2.get 6).2.text.2.get 6).2.get 6).2.get 6).2.get 2).2).1) W ∧ (fun W => RowI Kd.string 9 w.heap.size g w.heap.size p (.slice A2 ((Rd.texts (r.text.2.get 2).1.toNat (r.text.2.get 2).2).1).length c2) ((Rd.texts (r.text.2.get 2).1.toNat (r.text.2.get 2).2).1) W ∧ (fun _ => True) W) W) W)) := ⟨Gb.out.set 7 (.slice (some ⟨y.heap.size, 0, none⟩) sb.size (grownCap y sb.size 0 5))⟩
  have z0 : (Lib.bytesWorld y 5 sb).cell? ⟨w.heap.size, 0, none⟩ = some (.string ⟨#[]⟩) := by rw [cell_of_row _ _ _ _ _ _ Gb.out.hq]; rfl
  have z1 : (Lib.bytesWorld y 5 sb).cell? ⟨w.heap.size, 1, none⟩ = some (.string ⟨#[]⟩) := by rw [cell_of_row _ _ _ _ _ _ Gb.out.hq]; rfl
  have z2 : (Lib.bytesWorld y 5 sb).cell? ⟨w.heap.size, 2, none⟩ = some (.slice none 0 0) := by rw [cell_of_row _ _ _ _ _ _ Gb.out.hq]; rfl
  have z3 : (Lib.bytesWorld y 5 sb).cell? ⟨w.heap.size, 3, none⟩ = some (.int .i64 0) := by rw [cell_of_row _ _ _ _ _ _ Gb.out.hq]; rfl
  have z4 : (Lib.bytesWorld y 5 sb).cell? ⟨w.heap.size, 4, none⟩ = some (.int .i64 0) := by rw [cell_of_row _ _ _ _ _ _ Gb.out.hq]; rfl
  have z5 : (Lib.bytesWorld y 5 sb).cell? ⟨w.heap.size, 5, none⟩ = some (.int .i64 0) := by rw [cell_of_row _ _ _ _ _ _ Gb.out.hq]; rfl
  have z6 : (Lib.bytesWorld y 5 sb).cell? ⟨w.heap.size, 6, none⟩ = some (.slice none 0 0) := by rw [cell_of_row _ _ _ _ _ _ Gb.out.hq]; rfl
  have z7 : (Lib.bytesWorld y 5 sb).cell? ⟨w.heap.size, 7, none⟩ = some (.slice none 0 0) := by rw [cell_of_row _ _ _ _ _ _ Gb.out.hq]; rfl
  have z8 : (Lib.bytesWorld y 5 sb).cell? ⟨w.heap.size, 8, none⟩ = some (.int .i64 0) := by rw [cell_of_row _ _ _ _ _ _ Gb.out.hq]; rfl
  have fz : ∀ i, (Lib.bytesWorld y 5 sb).frozen? ⟨w.heap.size, i, none⟩ = false := fun i => frozen_of_row _ _ _ _ _ Gb.out.hq
  have hgq : Fact (g ≠ w.heap.size) := ⟨Gb.out.ne⟩
  clear Gb
  have d0 : ((Lib.bytesWorld y 5 sb).setCell ⟨g, 7, none⟩ (.slice (some ⟨y.heap.size, 0, none⟩) sb.size (grownCap y sb.size 0 5))).cell? ⟨g, 0, none⟩ = some (.string ((Rd.texts (r.text.2.get 2).1.toNat (r.text.2.get 2).2).2.get 6).2.text.1) := by rw [Hb.out.c]; rfl
  have d1 : ((Lib.bytesWorld y 5 sb).setCell ⟨g, 7, none⟩ (.slice (some ⟨y.heap.size, 0, none⟩) sb.size (grownCap y sb.size 0 5))).cell? ⟨g, 1, none⟩ = some (.string r.text.1) := by rw [Hb.out.c]; rfl
  have d2 : ((Lib.bytesWorld y 5 sb).setCell ⟨g, 7, none⟩ (.slice (some ⟨y.heap.size, 0, none⟩) sb.size (grownCap y sb.size 0 5))).cell? ⟨g, 2, none⟩ = some (.slice A2 ((Rd.texts (r.text.2.get 2).1.toNat (r.text.2.get 2).2).1).length c2) := by rw [Hb.out.c]; rfl
  have d3 : ((Lib.bytesWorld y 5 sb).setCell ⟨g, 7, none⟩ (.slice (some ⟨y.heap.size, 0, none⟩) sb.size (grownCap y sb.size 0 5))).cell? ⟨g, 3, none⟩ = some (.int .i64 (((Rd.texts (r.text.2.get 2).1.toNat (r.text.2.get 2).2).2.get 6).2.text.2.get 6).1) := by rw [Hb.out.c]; rfl
  have d4 : ((Lib.bytesWorld y 5 sb).setCell ⟨g, 7, none⟩ (.slice (some ⟨y.heap.size, 0, none⟩) sb.size (grownCap y sb.size 0 5))).cell? ⟨g, 4, none⟩ = some (.int .i64 ((((Rd.texts (r.text.2.get 2).1.toNat (r.text.2.get 2).2).2.get 6).2.text.2.get 6).2.get 6).1) := by rw [Hb.out.c]; rfl
  have d5 : ((Lib.bytesWorld y 5 sb).setCell ⟨g, 7, none⟩ (.slice (some ⟨y.heap.size, 0, none⟩) sb.size (grownCap y sb.size 0 5))).cell? ⟨g, 5, none⟩ = some (.int .i64 (((((Rd.texts (r.text.2.get 2).1.toNat (r.text.2.get 2).2).2.get 6).2.text.2.get 6).2.get 6).2.get 6).1) := by rw [Hb.out.c]; rfl
  have d6 : ((Lib.bytesWorld y 5 sb).setCell ⟨g, 7, none⟩ (.slice (some ⟨y.heap.size, 0, none⟩) sb.size (grownCap y sb.size 0 5))).cell? ⟨g, 6, none⟩ = some (.slice A8 ((Rd.fields ((((((Rd.texts (r.text.2.get 2).1.toNat (r.text.2.get 2).2).2.get 6).2.text.2.get 6).2.get 6).2.get 6).2.get 2).1.toNat ((((((Rd.texts (r.text.2.get 2).1.toNat (r.text.2.get 2).2).2.get 6).2.text.2.get 6).2.get 6).2.get 6).2.get 2).2).1).length c8) := by rw [Hb.out.c]; rfl
  have d7 : ((Lib.bytesWorld y 5 sb).setCell ⟨g, 7, none⟩ (.slice (some ⟨y.heap.size, 0, none⟩) sb.size (grownCap y sb.size 0 5))).cell? ⟨g, 7, none⟩ = some (.slice (some ⟨y.heap.size, 0, none⟩) sb.size (grownCap y sb.size 0 5)) := by rw [Hb.out.c]; rfl
  have d8 : ((Lib.bytesWorld y 5 sb).setCell ⟨g, 7, none⟩ (.slice (some ⟨y.heap.size, 0, none⟩) sb.size (grownCap y sb.size 0 5))).cell? ⟨g, 8, none⟩ = some (.int .i64 ((Rd.texts (r.text.2.get 2).1.toNat (r.text.2.get 2).2).2.get 6).1) := by rw [Hb.out.c]; rfl
  generalize hcap : grownCap y sb.size 0 5 = cap at *
  generalize hye : y.heap.size = ye at *
  go_wp2_with fail
  obtain ⟨hW, hO⟩ := put9 ((Lib.bytesWorld y 5 sb).setCell ⟨g, 7, none⟩ (.slice (some ⟨ye, 0, none⟩) sb.size cap)) w.heap.size (.string ((Rd.texts (r.text.2.get 2).1.toNat (r.text.2.get 2).2).2.get 6).2.text.1) (.string r.text.1) (.slice A2 ((Rd.texts (r.text.2.get 2).1.toNat (r.text.2.get 2).2).1).length c2) (.int .i64 (((Rd.texts (r.text.2.get 2).1.toNat (r.text.2.get 2).2).2.get 6).2.text.2.get 6).1) (.int .i64 ((((Rd.texts (r.text.2.get 2).1.toNat (r.text.2.get 2).2).2.get 6).2.text.2.get 6).2.get 6).1) (.int .i64 (((((Rd.texts (r.text.2.get 2).1.toNat (r.text.2.get 2).2).2.get 6).2.text.2.get 6).2.get 6).2.get 6).1) (.slice A8 ((Rd.fields ((((((Rd.texts (r.text.2.get 2).1.toNat (r.text.2.get 2).2).2.get 6).2.text.2.get 6).2.get 6).2.get 6).2.get 2).1.toNat ((((((Rd.texts (r.text.2.get 2).1.toNat (r.text.2.get 2).2).2.get 6).2.text.2.get 6).2.get 6).2.get 6).2.get 2).2).1).length c8) (.slice (some ⟨ye, 0, none⟩) sb.size cap) (.int .i64 ((Rd.texts (r.text.2.get 2).1.toNat (r.text.2.get 2).2).2.get 6).1) Hb.out.hq
  obtain ⟨hR, hT, hI⟩ := Hb.out.setq rfl hO hW
  have hlt : y.heap.size < (Lib.bytesWorld y 5 sb).heap.size := by rw [Lib.bytesWorld_size]; omega
  have hlt2 := Nat.lt_of_lt_of_le hlt (Nat.le_trans (Only.setCell (S := fun _ => True) (Lib.bytesWorld y 5 sb) trivial (.slice (some ⟨ye, 0, none⟩) sb.size cap) (a := ⟨g, 7, none⟩)).size hO.size)
  have hcap2 : sb.size ≤ cap := by rw [← hcap]; exact grownCap_ge y sb.size 0 _
  refine bodyPost_ret (results_cell_row rfl _ _ w.heap.size 27 #[(.string ((Rd.texts (r.text.2.get 2).1.toNat (r.text.2.get 2).2).2.get 6).2.text.1), (.string r.text.1), (.slice A2 ((Rd.texts (r.text.2.get 2).1.toNat (r.text.2.get 2).2).1).length c2), (.int .i64 (((Rd.texts (r.text.2.get 2).1.toNat (r.text.2.get 2).2).2.get 6).2.text.2.get 6).1), (.int .i64 ((((Rd.texts (r.text.2.get 2).1.toNat (r.text.2.get 2).2).2.get 6).2.text.2.get 6).2.get 6).1), (.int .i64 (((((Rd.texts (r.text.2.get 2).1.toNat (r.text.2.get 2).2).2.get 6).2.text.2.get 6).2.get 6).2.get 6).1), (.slice A8 ((Rd.fields ((((((Rd.texts (r.text.2.get 2).1.toNat (r.text.2.get 2).2).2.get 6).2.text.2.get 6).2.get 6).2.get 6).2.get 2).1.toNat ((((((Rd.texts (r.text.2.get 2).1.toNat (r.text.2.get 2).2).2.get 6).2.text.2.get 6).2.get 6).2.get 6).2.get 2).2).1).length c8), (.slice (some ⟨ye, 0, none⟩) sb.size cap), (.int .i64 ((Rd.texts (r.text.2.get 2).1.toNat (r.text.2.get 2).2).2.get 6).1)] (0, 0) _ rfl hW Tryd.underlying27 rfl (by kernel_rfl)) rfl ?_
  have hbody := Row.bytes (b := w.heap.size) hI.1 (by rw [hye]; exact hyg.out) hlt2 HTS.out hcap2
  rw [hye] at hbody
  simp only [tailE, Rd.fieldsOf]
  clear hW hO Hb
  refine ⟨(.slice A2 ((Rd.texts (r.text.2.get 2).1.toNat (r.text.2.get 2).2).1).length c2), (.slice A8 ((Rd.fields ((((((Rd.texts (r.text.2.get 2).1.toNat (r.text.2.get 2).2).2.get 6).2.text.2.get 6).2.get 6).2.get 6).2.get 2).1.toNat ((((((Rd.texts (r.text.2.get 2).1.toNat (r.text.2.get 2).2).2.get 6).2.text.2.get 6).2.get 6).2.get 6).2.get 2).2).1).length c8), (.slice (some ⟨ye, 0, none⟩) sb.size cap), ?_, ?_, ?_, ?_, ?_, ?_⟩
  · with_reducible rfl
  · exact (Row.of_own hI.2.2.1)
  · exact Row.of_own hI.2.1
  · (rw [HSB.out]; exact hbody)
  · exact hR
  · exact hT
end Go.Proofs.YtllnleokjcimhaaDoor.En
