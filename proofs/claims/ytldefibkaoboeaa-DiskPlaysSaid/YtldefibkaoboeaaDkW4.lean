/-
What '(*Disk).Write' does.
-/
import Derived.Test.YtldefibkaoboeaaDkW3
import Derived.StillTailTactics
namespace Go.Proofs.Ytldefibkaoboeaa.Dk
open Go.RowKit Go.Maps Go.Proofs.YtldefibkaoboeaaW.PrintWords Go.Proofs.YtldefibkaoboeaaW.PrintLast Go.Proofs.YtldefibkaoboeaaW.PrintMore
set_option linter.unusedVariables false
set_option linter.unusedSimpArgs false

section
variable {P : Program} {w : World} {ops : Array Oper} {rest : List Oper} {o : Oper} {a : Act} {Q : Exit → Act → World → Prop}
theorem wpList_put_map (hg : o.guard = none) (m x v : Operand) (t e : TypeId) (hop : o.op = Op.mapUpdate t m x v) (hi : P.underlying 3 = some (.int .i64)) (ht : P.underlying t = some (.map 3 e))
    (b N : Nat) (f : Nat → Option Value) (h : IntMap P w b f N) (hN2 : N < 9223372036854775807) (hm : a.eval m = .map (some b)) (i : Nat) (hx : a.eval x = .int .i64 (i : Int)) (hiN : i < N) (val : Value) (hv : a.eval v = val)
    (hK : ∀ w', IntMap P w' b (fun j => if j = i then some val else f j) N → w.mapTurned w' b → wpList P ops Q rest (a.put o.dst undef) w') : wpList P ops Q (o :: rest) a w := by
  refine wpList_plain hg fun K' hK' => ?_
  obtain ⟨w', hrun, r1, r2⟩ := h.store hi hN2 ht i hiN val
  unfold Oper.wp
  simp [execOp, hop, hm, hx, hv, hrun, Result.andThen]
  exact hK' _ _ (hK w' r1 r2)
end
section
variable {P : Program} {ops : Array Oper} {W : World} {Q : Act → Prop} {a : Act} {o : Oper} {rest : List Oper}
theorem wpStill_load_mid (hg : o.guard = none) (ty : TypeId) (x : Operand) (ho : o.op = .load ty x) (b off : Nat) (hx : a.eval x = .pointer (some ⟨b, off, none⟩)) (cs : List Value) (d : TypeDesc) (hc : W.rangeAt b off cs)
    (hu : P.underlying ty = some d) (hd : d.isRow = true) (hi : (P.info? ty).map (·.size) = some cs.length) (h : wpStill P ops W Q rest (a.put o.dst (.agg cs.toArray))) : wpStill P ops W Q (o :: rest) a := by
  unfold wpStill
  rw [if_pos (by simp [Region.wanted, hg])]
  unfold Oper.still execOp
  simp only [ho, hx, Instr.loadAt, Instr.sureAddr, Sem.run_bind, Sem.run_pure, Result.andThen_ok, run_loadVar_mid W b off ty cs d hc hu hd hi]
  exact ⟨rfl, h⟩
theorem region_tail {id : Nat} {Q : Exit → Act → World → Prop} {w : World} {l : List Oper} (n : Nat) (hm : P.follows .mixedOrders = true) (hB : Region.lexTailB .any l.toArray n = true)
    (h : ∀ W, W = w.drew → wpStill P l.toArray W (fun a' => wpList P l.toArray Q (l.drop n) a' W) (l.take n) a) : (Code.region id l.toArray true).wp P Q a w := wp_region_still_tail n hm hB (h _ rfl)
end
/-- Cells of a block, written from a place on. -/
theorem setCells_row (g : Nat) (t : TypeId) : ∀ (vs : List Value) (o : Nat) (cur : Array Value) (w : World), w.heap[g]? = some (.cells cur t (0, 0)) → o + vs.length ≤ cur.size →
    (w.setCells g o vs).heap[g]? = some (.cells (cur.toList.take o ++ vs ++ cur.toList.drop (o + vs.length)).toArray t (0, 0)) ∧ ∀ k, k ≠ g → (w.setCells g o vs).heap[k]? = w.heap[k]?
  | [], o, cur, w, hg, hl => by
    refine ⟨?_, fun _ _ => rfl⟩
    show w.heap[g]? = _
    rw [hg]
    simp
  | v :: r, o, cur, w, hg, hl => by
    have ho : o < cur.size := by simp at hl; omega
    obtain ⟨h1, h2⟩ := setCells_row g t r (o + 1) (cur.setIfInBounds o v) (w.setCell ⟨g, o, none⟩ v) (heap_setCell_same w g o cur t v hg) (by simp at hl ⊢; omega)
    refine ⟨?_, fun k hk => (h2 k hk).trans (heap_setCell_other w ⟨g, o, none⟩ k v hk)⟩
    show ((w.setCell ⟨g, o, none⟩ v).setCells g (o + 1) r).heap[g]? = _
    rw [h1]
    congr 2
    apply congrArg List.toArray
    have hlen : cur.toList.length = cur.size := by simp
    have e1 : (cur.toList.set o v).take (o + 1) = cur.toList.take o ++ [v] := by
      rw [List.take_succ_eq_append_getElem (by simp; omega), List.getElem_set_self, List.take_set_of_le (Nat.le_refl o)]
    have e2 : (cur.toList.set o v).drop (o + 1 + r.length) = cur.toList.drop (o + (r.length + 1)) := by
      rw [List.drop_set_of_lt (by omega)]; congr 1; omega
    simp only [Array.toList_setIfInBounds, List.length_cons]
    rw [e1, e2]
    simp
theorem setCells_new (W : World) (Z : Array Value) (t : TypeId) (vs : List Value) (h : vs.length ≤ Z.size) : (W.alloc (.cells Z t)).setCells W.heap.size 0 vs = W.alloc (.cells (vs ++ Z.toList.drop vs.length).toArray t) := by
  obtain ⟨h1, h2⟩ := setCells_row W.heap.size t vs 0 Z (W.alloc (.cells Z t)) (heap_alloc_new W _) (by omega)
  have hrest : ∀ (vs : List Value) (o : Nat) (w : World), (w.setCells W.heap.size o vs) = { w with heap := (w.setCells W.heap.size o vs).heap } := by
    intro vs
    induction vs with
    | nil => intro o w; rfl
    | cons v r ih => intro o w; exact ih (o + 1) (w.setCell ⟨W.heap.size, o, none⟩ v)
  have hh : ((W.alloc (.cells Z t)).setCells W.heap.size 0 vs).heap = (W.alloc (.cells (vs ++ Z.toList.drop vs.length).toArray t)).heap := by
    apply Array.ext_getElem?
    intro k
    rcases Nat.lt_trichotomy k W.heap.size with hk | rfl | hk
    · rw [h2 k (by omega), Below.heap_alloc _ _ _ hk, Below.heap_alloc _ _ _ hk]
    · rw [h1, heap_alloc_new]; simp
    · rw [h2 k (by omega), Array.getElem?_eq_none (by simp; omega), Array.getElem?_eq_none (by simp; omega)]
  rw [hrest vs 0 (W.alloc (.cells Z t)), hh]
  rfl
def zlist : List Value := List.replicate 64 (Value.int .u8 0)
theorem pad_cells {b : List Int} (hb : b.length ≤ 64) : b.map (Value.int .u8) ++ zlist.drop b.length = (pad b).map (Value.int .u8) := by
  rw [pad_le hb, List.map_append, List.map_replicate, zlist, List.drop_replicate]
theorem copy_new (W : World) (Z : Array Value) (hZ : Z.toList = zlist) (A : Option Addr) (c : Nat) (b : List Int) (ty : TypeId) (hb : b.length ≤ 64) (hr : ReadB W A b.length b) :
    (Builtin.copy_ #[22, 22] ty #[.slice (some ⟨W.heap.size, 0, none⟩) 64 64, .slice A b.length c]).run Try.prog (W.alloc (.cells Z 65)) = .ok (.int .i64 (b.length : Int)) (W.alloc (.cells ((pad b).map (Value.int .u8)).toArray 65)) := by
  have hs : (Try.prog.info? 5).map (·.size) = some 1 := by kernel_rfl
  have hZs : Z.size = 64 := by rw [← Array.length_toList, hZ]; simp [zlist]
  rcases Nat.eq_zero_or_pos b.length with h0 | h0
  · obtain rfl : b = [] := List.length_eq_zero_iff.1 h0
    have := run_copy_none (P := Try.prog) (W.alloc (.cells Z 65)) 22 22 ty 5 (some ⟨W.heap.size, 0, none⟩) A 64 64 0 c Try.underlying22 hs (by rfl)
    have hz : Z = ((pad []).map (Value.int .u8)).toArray := by
      apply Array.toList_inj.1
      rw [hZ, ← pad_cells (by simp)]; rfl
    rw [← hz]
    exact this
  · obtain ⟨ad, rfl, hc⟩ := hr.2.2 h0
    have hr2 := Kd.C_below hr ((Below.refl _ _).alloc (Nat.le_refl _) (.cells Z 65))
    have hlen : (b.map (Value.int .u8)).length = b.length := List.length_map ..
    have := run_copy_cells (P := Try.prog) (W.alloc (.cells Z 65)) 22 22 ty 5 W.heap.size 0 64 64 ad b.length c (b.map (Value.int .u8)) Try.underlying22 hs (by rw [hlen]; show b.length = min b.length 64; omega)
      (fun j v hv => by
        obtain ⟨ad2, e, hc2⟩ := hr2.2.2 h0
        cases e
        rw [List.getElem?_map] at hv
        cases hq : b[j]? with
        | none => rw [hq] at hv; cases hv
        | some x =>
          rw [hq] at hv
          obtain ⟨c', hc3, hc4, hc5⟩ := hc2 j x hq
          have := hc5 0 v (by rw [show c' = [.int .u8 x] from hc4]; exact hv)
          simpa [Kd.int, Kd.scalar] using this)
      (fun j hj => by rw [cell_of_row _ _ _ _ _ _ (heap_alloc_new W _), Array.getElem?_eq_getElem (by rw [hlen] at hj; omega)]; rfl)
      (fun j hj => frozen_of_row _ _ _ _ _ (heap_alloc_new W _)) (by intro v hv; obtain ⟨x, _, rfl⟩ := List.mem_map.1 hv; rfl)
    rw [hlen] at this
    rw [setCells_new W Z _ _ (by rw [hlen]; omega), hlen, hZ, pad_cells hb] at this
    exact this
theorem IsDisk.put {w w' : World} {L : DL} {D : PD} (h : IsDisk w L D) {i : Nat} (hi : i < D.n) {b : List Int} (hb : b.length = 64) (hm : IntMap Try.prog w' L.bp (fun j => if j = i then some (secV b) else (D.pe j).map secV) D.n) (ht : w.mapTurned w' L.bp) : IsDisk w' L (D.put i b) := by
  obtain ⟨n1, n2, n3, n4⟩ := h.ne_maps
  obtain ⟨cs, h1, h2⟩ := h.stands
  obtain ⟨f, h3, h4⟩ := h.bads
  have g := ht.grown
  have hs : ∀ k, k < w.heap.size → k ≠ L.bp → w'.heap[k]? = w.heap[k]? := fun k hk hn => g.block k hk (fun e => hn (Option.some.inj e))
  refine ⟨h.good.put hi hb, (hs _ (h.lt _ L.S_p) n1).trans h.self, ⟨cs, (hs _ (h.lt _ L.S_bs) n3).trans h1, h2⟩, ?_, ⟨f, h3.move (hs _ (h.lt _ L.S_bb) (Ne.symm h.ne2)), h4⟩, h.ne1, h.ne2⟩
  have e : (fun j => if j = i then some (secV b) else (D.pe j).map secV) = fun j => ((D.put i b).pe j).map secV := by
    funext j
    simp only [PD.put]
    split <;> rfl
  rw [← e]; exact hm
/-- What a call that ends in an error's number comes to. -/
def DoesTo (w : World) (L : DL) (r : Int × PD) (e : Ending) (w' : World) : Prop := e = .returned (.int .i64 r.1) ∧ Now w L r.2 w'
theorem Write_down {w : World} {L : DL} {D : PD} (h : IsDisk w L D) (i : Int) (A : Option Addr) (n c : Nat) (hd : D.down = true) :
    Calls Try.prog 11 #[.pointer (some ⟨L.p, 0, none⟩), .int .i64 i, .slice A n c] w (DoesTo w L (40, D)) := by
  have c4 := h.c4
  rw [hd] at c4
  have H := Lib.hid h
  clear h hd
  go_enter Try.func11, Try.ntmps11
  go_wp2
  go_ret
  exact ⟨rfl, H.out, Only.refl _ _⟩
theorem Write_range {w : World} {L : DL} {D : PD} (h : IsDisk w L D) (i : Int) (A : Option Addr) (n c : Nat) (hd : D.down = false) (ht : D.there i = false ∨ 64 < n) :
    Calls Try.prog 11 #[.pointer (some ⟨L.p, 0, none⟩), .int .i64 i, .slice A n c] w (DoesTo w L (11, D)) := by
  have c4 := h.c4
  rw [hd] at c4
  have HT := Fact.mk (there_any h i)
  have H := Lib.hid h
  rcases Bool.eq_false_or_eq_true (D.there i) with h1 | h1
  · have hn : (64 : Int) < (n : Int) := by
      rcases ht with h2 | h2
      · rw [h1] at h2; cases h2
      · omega
    rw [h1] at HT
    clear h hd ht h1
    go_enter Try.func11, Try.ntmps11
    go_wp2_with (go_at_call 28; refine HT.out.mono ?_; rintro e w' ⟨rfl, rfl⟩)
    go_ret
    exact ⟨rfl, H.out, Only.refl _ _⟩
  · rw [h1] at HT
    clear h hd ht h1
    go_enter Try.func11, Try.ntmps11
    go_wp2_with (go_at_call 28; refine HT.out.mono ?_; rintro e w' ⟨rfl, rfl⟩)
    go_ret
    exact ⟨rfl, H.out, Only.refl _ _⟩
theorem Write_falls {w : World} {L : DL} {D : PD} (h : IsDisk w L D) (i : Int) (A : Option Addr) (n c : Nat) (hd : D.down = false) (ht : D.there i = true) (hn : n ≤ 64) (hc : D.call.down = true) :
    Calls Try.prog 11 #[.pointer (some ⟨L.p, 0, none⟩), .int .i64 i, .slice A n c] w (DoesTo w L (40, D.call)) := by
  have c4 := h.c4
  rw [hd] at c4
  have HT := Fact.mk (there_any h i)
  rw [ht] at HT
  have HC := Fact.mk (call_any h)
  rw [hc] at HC
  clear h hd ht hc
  go_enter Try.func11, Try.ntmps11
  go_wp2_with (first | (go_at_call 28; refine HT.out.mono ?_; rintro e w' ⟨rfl, rfl⟩) | (go_at_call 29; refine HC.out.mono ?_; rintro e w1 ⟨rfl, h1⟩; have H1 := Fact.mk h1; clear h1))
  go_ret
  exact ⟨rfl, H1.out⟩
set_option maxRecDepth 100000 in
theorem Write_ok {w : World} {L : DL} {D : PD} (h : IsDisk w L D) (i : Nat) (A : Option Addr) (c : Nat) (b : List Int) (hd : D.down = false) (hi : i < D.n) (hn : b.length ≤ 64) (hb : ReadB w A b.length b) (hbA : ∀ w', Only L.S w w' → ReadB w' A b.length b) (hc : D.call.down = false) :
    Calls Try.prog 11 #[.pointer (some ⟨L.p, 0, none⟩), .int .i64 (i : Int), .slice A b.length c] w (DoesTo w L (0, D.call.put i (pad b))) := by
  have c4 := h.c4
  rw [hd] at c4
  have hn4 : D.n ≤ 4096 := h.good.most
  have ht : D.there (i : Int) = true := by rw [PD.there_iff]; omega
  have HT := Fact.mk (there_any h (i : Int))
  rw [ht] at HT
  have HC := Fact.mk (call_any h)
  rw [hc] at HC
  have HB := Fact.mk hbA
  clear h hd ht hc hb hbA
  go_enter Try.func11, Try.ntmps11
  go_wp2_with (first | (go_at_call 28; refine HT.out.mono ?_; rintro e w' ⟨rfl, rfl⟩) | (go_at_call 29; refine HC.out.mono ?_; rintro e w1 ⟨rfl, h1⟩; have H1 := Fact.mk h1; clear h1; have hcp : ∀ (Z : Array Value) (ty : TypeId), Z.toList = List.replicate 64 (Value.int .u8 0) → (Builtin.copy_ #[22, 22] ty #[.slice (some ⟨w1.heap.size, 0, none⟩) 64 64, .slice A b.length c]).run Try.prog (w1.alloc (.cells Z 65)) = .ok (.int .i64 (b.length : Int)) (w1.alloc (.cells ((pad b).map (Value.int .u8)).toArray 65)) := fun Z ty hZ => copy_new w1 Z hZ A c b ty hn (HB.out w1 H1.out.2)))
  clear hcp
  have HP := Fact.mk (pad_length b)
  have HW : Fact (Only L.S w (w1.alloc (.cells ((pad b).map (Value.int .u8)).toArray 65)) ∧ IsDisk (w1.alloc (.cells ((pad b).map (Value.int .u8)).toArray 65)) L D.call ∧ (w1.alloc (.cells ((pad b).map (Value.int .u8)).toArray 65)).rangeAt w1.heap.size 0 ((pad b).map (Value.int .u8))) :=
    ⟨H1.out.2.trans (Only.alloc _ _ _), H1.out.1.alloc _, fun j v hv => by rw [Nat.zero_add, cell_of_row _ _ _ _ _ _ (heap_alloc_new w1 _)]; simpa using hv⟩
  have HI : Fact ((Try.prog.info? 65).map (·.size) = some ((pad b).map (Value.int .u8)).length) := ⟨by rw [size_sec, List.length_map, pad_length]⟩
  refine region_tail 6 (by kernel_rfl) (by kernel_rfl) ?_
  intro w2 hw2
  have HW2 : Fact (Only L.S w w2 ∧ IsDisk w2 L D.call ∧ w2.rangeAt w1.heap.size 0 ((pad b).map (Value.int .u8))) := by
    subst hw2; exact ⟨HW.out.1.drew, HW.out.2.1.drew, HW.out.2.2⟩
  clear HW hw2
  have c1 := HW2.out.2.1.c1
  generalize w1.heap.size = g at *
  clear H1
  clear w1
  generalize hcs : (pad b).map (Value.int .u8) = cs at *
  have HCS := Fact.mk hcs
  clear hcs
  simp only [List.take_succ_cons, List.take_zero, List.drop_succ_cons, List.drop_zero]
  repeat (first | (refine wpStill_load_mid rfl 65 (.tmp 7) rfl g 0 rfl cs _ HW2.out.2.2 Try.underlying65 rfl HI.out ?_) | still_step)
  refine wpStill_nil ?_
  go_wp2_with (refine wpList_put_map rfl (.tmp 33) (.tmp 34) (.tmp 35) 59 65 rfl int_t Try.underlying59 L.bp D.n _ HW2.out.2.1.pend (by omega) rfl i rfl hi (.agg cs.toArray) rfl ?_; intro w3 hm3 ht3; have HM := Fact.mk hm3; have HT3 := Fact.mk ht3; clear hm3 ht3)
  go_ret
  refine ⟨rfl, ?_, HW2.out.1.trans (Only.mapTurned HT3.out L.S_bp)⟩
  refine HW2.out.2.1.put hi (pad_length b) ?_ HT3.out
  have := HM.out
  rw [← HCS.out] at this
  exact this
/-- '(*Disk).Write'. -/
theorem Write_any {w : World} {L : DL} {D : PD} (h : IsDisk w L D) (i : Int) (A : Option Addr) (c : Nat) (b : List Int) (hb : ReadB w A b.length b) (hbA : ∀ w', Only L.S w w' → ReadB w' A b.length b) :
    Calls Try.prog 11 #[.pointer (some ⟨L.p, 0, none⟩), .int .i64 i, .slice A b.length c] w (DoesTo w L (D.write i b)) := by
  unfold PD.write
  cases hd : D.down with
  | true => rw [if_pos rfl]; exact Write_down h i A _ c hd
  | false =>
    rw [if_neg Bool.false_ne_true]
    by_cases hr : D.there i = false ∨ 64 < b.length
    · rw [if_pos hr]; exact Write_range h i A _ c hd hr
    · rw [if_neg hr]
      have ht : D.there i = true := by cases hq : D.there i with
        | true => rfl
        | false => exact absurd (.inl hq) hr
      have hl : b.length ≤ 64 := Nat.le_of_not_lt (fun h => hr (.inr h))
      have hi := (PD.there_iff D i).1 ht
      cases hc : D.call.down with
      | true => rw [if_pos rfl]; exact Write_falls h i A _ c hd ht hl hc
      | false =>
        rw [if_neg Bool.false_ne_true]
        obtain ⟨k, rfl⟩ := Int.eq_ofNat_of_zero_le hi.1
        rw [Int.toNat_natCast]
        exact Write_ok h k A c b hd (by omega) hl hb hbA hc
end Go.Proofs.Ytldefibkaoboeaa.Dk
