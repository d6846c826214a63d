/-
The law DiskApart: true.
-/
import Derived.Test.YtldefibkaoboeaaDkLBad
namespace Go.Proofs.Ytldefibkaoboeaa.Dk
open Go.RowKit Go.Maps Go.Proofs.YtldefibkaoboeaaW.PrintWords Go.Proofs.YtldefibkaoboeaaW.PrintLast Go.Proofs.YtldefibkaoboeaaW.PrintMore
set_option linter.unusedVariables false
set_option linter.unusedSimpArgs false

theorem DiskApart_out (w : World) (A : Option Addr) (n c : Nat) (b : Bool) (h : 60 < n) : Calls Try.prog 5 #[.slice A n c, .bool b] w fun e w' => e = .returned (.bool true) ∧ Below w.heap.size w w' := by
  have h2 : (60 : Int) < (n : Int) := by omega
  go_enter Try.func5, Try.ntmps5
  go_wp2_with fail
  refine (anchor_true w).mono ?_
  rintro e w1 ⟨rfl, b1⟩
  have B1 := Fact.mk b1
  clear b1
  go_wp2_with fail
  go_ret
  exact ⟨rfl, B1.out⟩
/-- Whole numbers that are read. -/
abbrev ReadI (w : World) (A : Option Addr) (n : Nat) (l : List Int) : Prop := Kd.C (Kd.int .i64) w A n l
theorem int_cell {w : World} {A : Option Addr} {l : List Int} (h : ReadI w A l.length l) {k : Nat} (hk : k < l.length) : ∃ ad, A = some ad ∧ w.cell? (ad.add k) = some (.int .i64 (l.getD k 0)) := by
  obtain ⟨ad, e, hc⟩ := h.2.2 (by omega)
  obtain ⟨c, h1, h2, h3⟩ := hc k l[k] (List.getElem?_eq_getElem hk)
  refine ⟨ad, e, ?_⟩
  have h4 : l.getD k 0 = l[k] := by rw [List.getD_eq_getElem?_getD, List.getElem?_eq_getElem hk]; rfl
  have := h3 0 (.int .i64 l[k]) (by rw [show c = [.int .i64 l[k]] from h2]; rfl)
  rw [h4]
  simpa [Kd.int, Kd.scalar] using this
/-- What the law keeps: 16 bytes, and a disk that has just these. -/
structure ApartAt (w : World) (L : DL) (g : Nat) (flush : Bool) (k : Nat) (f : Nat → Int) (D : PD) : Prop where
  disk : IsDisk w L D
  up : PD.Up D
  n16 : D.n = 16
  good : ∀ i, D.bad i = false
  now : ∀ i, i < 16 → D.now i = pad [f i]
  pend : flush = true → ∀ i, D.pe i = none
  pnd : flush = false → 0 < k → ∃ i, i < 16 ∧ (D.pe i).isSome = true
  row : w.heap[g]? = some (.cells ((List.range 16).map fun i => Value.int .u8 (f i)).toArray 37 (0, 0))
theorem info8 : (Try.prog.info? 5).map (·.size) = some 1 := by kernel_rfl
theorem index16 {cs : Array Value} {j : Nat} {x : Int} (hj : j < 16) (h : cs[j]? = some (.int .u8 x)) (W : World) : (Instr.index 37 (.agg cs) (.int .i64 (j : Int))).run Try.prog W = .ok (.int .u8 x) W := by
  obtain ⟨i, hi, hs⟩ := Option.map_eq_some_iff.1 info8
  have h2 : (j : Int) < 16 := by omega
  simp [Instr.index, asIntOf, run_underlying Try.underlying37, h2, sizeOf, typeInfo, hi, hs, part, isAgg, run_underlying Try.underlying5, h, hj]
theorem row16_set (f : Nat → Int) {q : Nat} (hq : q < 16) (y : Int) : ((List.range 16).map fun i => Value.int .u8 (f i)).toArray.setIfInBounds q (.int .u8 y) = ((List.range 16).map fun i => Value.int .u8 (if i = q then y else f i)).toArray := by
  apply Array.ext_getElem?
  intro i
  rw [Array.getElem?_setIfInBounds]
  by_cases h : q = i
  · subst h
    rw [if_pos rfl, if_pos (by simp [hq])]
    simp [hq]
  · rw [if_neg h]
    rcases Nat.lt_or_ge i 16 with hi | hi
    · simp [hi, Ne.symm h]
    · rw [Array.getElem?_eq_none (by simp; omega), Array.getElem?_eq_none (by simp; omega)]
theorem row16_get (f : Nat → Int) {q : Nat} (hq : q < 16) : ((List.range 16).map fun i => Value.int .u8 (f i)).toArray[q]? = some (.int .u8 (f q)) := by simp [hq]
theorem ApartAt.cell {w : World} {L : DL} {g k : Nat} {b : Bool} {f : Nat → Int} {D : PD} (h : ApartAt w L g b k f D) {q : Nat} (hq : q < 16) : w.cell? ⟨g, q, none⟩ = some (.int .u8 (f q)) := by
  rw [cell_of_row _ _ _ _ _ _ h.row, row16_get f hq]
theorem apart_f {w w4 : World} {L : DL} {g k : Nat} {f : Nat → Int} {D : PD} (h : ApartAt w L g false k f D) {q : Nat} (hq : q < 16) {y : Int} (hd : IsDisk w4 L (D.put q (pad [y]))) (hg : ¬ L.S g) (hw : w4.heap[g]? = w.heap[g]?) :
    ApartAt (w4.setCell ⟨g, q, none⟩ (.int .u8 y)) L g false (k + 1) (fun i => if i = q then y else f i) (D.put q (pad [y])) where
  disk := hd.only (Only.setCell (S := fun k => k = g) w4 rfl _) (fun k hk e => hg (e ▸ hk))
  up := h.up.put q _
  n16 := h.n16
  good := h.good
  now := fun i hi => by
    by_cases e : i = q
    · subst e; rw [PD.now_put_same, if_pos rfl]
    · rw [PD.now_put_other D e, if_neg e]; exact h.now i hi
  pend := fun e => by cases e
  pnd := fun _ _ => ⟨q, hq, by simp [PD.put]⟩
  row := by rw [heap_setCell_same w4 g q _ _ _ (hw.trans h.row), row16_set f hq]
theorem apart_t {w w4 : World} {L : DL} {g k : Nat} {f : Nat → Int} {D : PD} (h : ApartAt w L g true k f D) {q : Nat} (hq : q < 16) {y : Int} (hd : IsDisk w4 L ((D.put q (pad [y])).stand fun _ => true)) (hg : ¬ L.S g) (hw : w4.heap[g]? = w.heap[g]?) :
    ApartAt (w4.setCell ⟨g, q, none⟩ (.int .u8 y)) L g true (k + 1) (fun i => if i = q then y else f i) ((D.put q (pad [y])).stand fun _ => true) where
  disk := hd.only (Only.setCell (S := fun k => k = g) w4 rfl _) (fun k hk e => hg (e ▸ hk))
  up := (h.up.put q _).stand _
  n16 := h.n16
  good := h.good
  now := fun i hi => by
    rw [PD.now_flush]
    by_cases e : i = q
    · subst e; rw [PD.now_put_same, if_pos rfl]
    · rw [PD.now_put_other D e, if_neg e]; exact h.now i hi
  pend := fun _ i => rfl
  pnd := fun e => by cases e
  row := by rw [heap_setCell_same w4 g q _ _ _ (hw.trans h.row), row16_set f hq]
theorem size16 : (Try.prog.info? 37).map (·.size) = some 16 := by kernel_rfl
theorem pad_at (y : Int) : (pad [y])[0]? = some y ∧ (pad [y])[63]? = some 0 := ⟨rfl, rfl⟩
set_option maxHeartbeats 1000000 in
theorem DiskApart_false (w : World) (A : Option Addr) (c : Nat) (l : List Int) (hn : l.length ≤ 60) (hr : ReadI w A l.length l) : Calls Try.prog 5 #[.slice A l.length c, .bool false] w fun e w' => e = .returned (.bool true) ∧ Below w.heap.size w w' := by
  have HRd := Fact.mk hr
  clear hr
  go_enter Try.func5, Try.ntmps5
  go_wp2_with fail
  refine (anchor_true w).mono ?_
  rintro e w1 ⟨rfl, b1⟩
  have B1 := Fact.mk b1
  clear b1
  go_wp2_with fail
  refine (New_good (n := 16) (by omega) (by omega)).mono ?_
  rintro e w2 ⟨L, rfl, h2, hl, b2⟩
  have H2 := Fact.mk h2
  have HL := Fact.mk (fun k hk => Nat.le_trans B1.out.size (hl k hk))
  have B2 := Fact.mk (next_new B1.out b2)
  clear h2 hl b2 B1
  go_wp2_with fail
  have H3 : Fact (∃ f D, ApartAt (w2.alloc (.cells #[.int .u8 0, .int .u8 0, .int .u8 0, .int .u8 0, .int .u8 0, .int .u8 0, .int .u8 0, .int .u8 0, .int .u8 0, .int .u8 0, .int .u8 0, .int .u8 0, .int .u8 0, .int .u8 0, .int .u8 0, .int .u8 0] 37)) L w2.heap.size false 0 f D) :=
    ⟨fun _ => 0, PD.new 16, H2.out.alloc _, PD.Up.new 16, rfl, fun _ => rfl, fun i _ => rfl, fun _ _ => rfl, fun _ h => absurd h (by omega), heap_alloc_new _ _⟩
  have B3 := Fact.mk (B2.out.alloc B2.out.size (.cells #[.int .u8 0, .int .u8 0, .int .u8 0, .int .u8 0, .int .u8 0, .int .u8 0, .int .u8 0, .int .u8 0, .int .u8 0, .int .u8 0, .int .u8 0, .int .u8 0, .int .u8 0, .int .u8 0, .int .u8 0, .int .u8 0] 37))
  have HG := Fact.mk (And.intro (H2.out.fresh (Nat.le_refl _)) B2.out.size)
  generalize (w2.alloc (.cells #[.int .u8 0, .int .u8 0, .int .u8 0, .int .u8 0, .int .u8 0, .int .u8 0, .int .u8 0, .int .u8 0, .int .u8 0, .int .u8 0, .int .u8 0, .int .u8 0, .int .u8 0, .int .u8 0, .int .u8 0, .int .u8 0] 37)) = w3 at *
  clear H2 B2
  generalize w2.heap.size = g at *
  clear w2
  go_loopw [24] (fun v24 wr => ∃ j : Nat, v24 = .int .i64 (j : Int) ∧ j ≤ l.length ∧ Fact (∃ f D, ApartAt wr L g false j f D) ∧ Fact (Below w.heap.size w wr)) (fun v _ => l.length - (intOf v).toNat)
  case atStart => exact ⟨0, rfl, Nat.zero_le _, H3, B3⟩
  case round =>
    obtain ⟨j, rfl, hj, R1, R2⟩ := hrel
    clear H3 B3
    by_cases hlt : j < l.length
    · obtain ⟨ad, hA, hc⟩ := int_cell (Kd.C_below HRd.out R2.out) hlt
      subst hA
      have hlt2 : (j : Int) < (l.length : Int) := by omega
      obtain ⟨f, D, hD⟩ := R1.out
      have HD := Fact.mk hD
      clear hD R1
      generalize l.getD j 0 = x at *
      obtain ⟨q, hq, hqe⟩ : ∃ q : Nat, q < 16 ∧ (wrap64 (x.tmod 16 + 16)).tmod 16 = (q : Int) := by
        have h1 := Int.tmod_lt_of_pos x (show (0 : Int) < 16 by omega)
        have h2 : -16 < x.tmod 16 := by
          rcases Int.le_total 0 x with h | h
          · have := Int.tmod_nonneg 16 h; omega
          · have := Int.tmod_lt_of_pos (-x) (show (0 : Int) < 16 by omega)
            rw [Int.neg_tmod] at this; omega
        have h3 : wrap64 (x.tmod 16 + 16) = x.tmod 16 + 16 := by unfold wrap64; omega
        rw [h3]
        have h4 := Int.tmod_nonneg 16 (show 0 ≤ x.tmod 16 + 16 by omega)
        have h5 := Int.tmod_lt_of_pos (x.tmod 16 + 16) (show (0 : Int) < 16 by omega)
        exact ⟨((x.tmod 16 + 16).tmod 16).toNat, by omega, by omega⟩
      have HQ := Fact.mk hqe
      have hq2 : (q : Int) < 16 := by omega
      clear hqe
      go_wp2_with fail
      rw [HQ.out]
      have HW := Fact.mk (fun y : Int => HD.out.up.write (b := [y]) (by rw [HD.out.n16]; exact hq) (by simp))
      refine (Write_to (HD.out.disk.alloc _) (q : Int) [_] wr.heap.size 1 (bytes_new wr [_] 5 (by simp)) (HD.out.disk.fresh (Nat.le_refl _)) (HW.out _)).mono ?_
      rintro e w4 ⟨rfl, h4, o4⟩
      have H4 := Fact.mk h4
      have hgr : g < wr.heap.size := (Array.getElem?_eq_some_iff.1 HD.out.row).1
      have G4 : Fact (w4.heap[g]? = wr.heap[g]?) := ⟨(o4.block g (by simp; omega) HG.out.1).trans (Below.heap_alloc _ _ _ hgr)⟩
      have B4 := Fact.mk (next_alloc R2.out o4 HL.out)
      clear h4 o4 hgr
      have cg : w4.cell? ⟨g, q, none⟩ = some (.int .u8 (f q)) := by rw [cell_of_row _ _ _ _ _ _ (G4.out.trans HD.out.row), row16_get f hq]
      have fg : w4.frozen? ⟨g, q, none⟩ = false := frozen_of_row _ _ _ _ _ (G4.out.trans HD.out.row)
      go_wp2_with fail
      exact ⟨⟨j + 1, by go_num, by omega, ⟨⟨_, _, apart_f HD.out hq H4.out HG.out.1 G4.out⟩⟩, ⟨B4.out.trans ((Only.setCell (S := fun k => k = g) w4 rfl _).below B4.out.size (fun k hk => by subst hk; exact HG.out.2))⟩⟩, by simp [intOf]; omega⟩
    · have he : j = l.length := by omega
      subst he
      have hlt2 : ¬ ((l.length : Int) < (l.length : Int)) := by omega
      obtain ⟨f, D, hD⟩ := R1.out
      have HD := Fact.mk hD
      have HI : Fact ((Try.prog.info? 37).map (·.size) = some ((List.range 16).map fun i => Value.int .u8 (f i)).toArray.size) := ⟨by rw [size16]; simp⟩
      have HX : Fact (∀ (q : Nat) (hq : q < 16) (W : World), (Instr.index 37 (.agg ((List.range 16).map fun i => Value.int .u8 (f i)).toArray) (.int .i64 (q : Int))).run Try.prog W = .ok (.int .u8 (f q)) W) := ⟨fun q hq W => index16 hq (row16_get f hq) W⟩
      have HRow := Fact.mk hD.row
      clear hD R1
      generalize ((List.range 16).map fun i => Value.int .u8 (f i)).toArray = cs at *
      go_wp2_with (refine wpList_load_row rfl 37 (.tmp 6) rfl g rfl 37 cs (0, 0) _ HRow.out Try.underlying37 rfl HI.out ?_)
      have HS : Fact (IsDisk wr L D) := ⟨HD.out.disk⟩
      obtain ⟨w0, rfl⟩ : ∃ w0 : World, w0 = wr := ⟨_, rfl⟩
      go_loopw [56] (fun v56 wr => ∃ q : Nat, v56 = .int .i64 (q : Int) ∧ q ≤ 16 ∧ Fact (IsDisk wr L D) ∧ Fact (Below w.heap.size w wr)) (fun v _ => 16 - (intOf v).toNat)
      case atStart => exact ⟨0, rfl, Nat.zero_le _, HS, R2⟩
      case round =>
        obtain ⟨q, rfl, hq, S1, S2⟩ := hrel
        clear HS R2
        by_cases hlt3 : q < 16
        · have hlt4 : (q : Int) < 16 := by omega
          have hix := HX.out q hlt3
          have HRd2 : Fact (D.read (q : Int) = (pad [f q], 0)) := ⟨by rw [HD.out.up.read (by rw [HD.out.n16]; exact hlt3) (HD.out.good q), HD.out.now q hlt3]⟩
          generalize f q = y at *
          go_wp2_with fail
          refine (Read_to S1.out (q : Int) HRd2.out (pad_length _)).mono ?_
          rintro e w5 ⟨g5, c5, rfl, r5, l5, s5, h5, b5⟩
          have c50 : w5.cell? ⟨g5, 0, none⟩ = some (.int .u8 y) := own_cell r5 0 y (pad_at y).1
          have c53 : w5.cell? ⟨g5, 63, none⟩ = some (.int .u8 0) := own_cell r5 63 0 (pad_at y).2
          have H5 := Fact.mk h5
          have B5 := Fact.mk (next_new S2.out b5)
          clear r5 l5 s5 h5 b5
          go_wp2_with fail
          exact ⟨⟨q + 1, by go_num, by omega, H5, B5⟩, by simp [intOf]; omega⟩
        · have he : q = 16 := by omega
          subst he
          go_wp2_with fail
          refine (Pending_any S1.out).mono ?_
          rintro e w6 ⟨v, rfl, r6, b6⟩
          obtain ⟨A6, c6, rfl, _⟩ := Kd.R_reads r6
          have B6 := Fact.mk (next_new S2.out b6)
          have HP := HD.out.pnd
          clear r6 b6
          rcases Nat.eq_zero_or_pos l.length with h0 | h0
          · have hl0 : ((l.length : Int) == 0) = true := by rw [h0]; rfl
            clear HP
            go_wp2_with fail
            all_goals
              go_ret
              exact ⟨rfl, B6.out⟩
          · have hk : ((D.ikeys.length : Int) == 0) = false := by
              obtain ⟨i, hi, hp⟩ := HP rfl h0
              have hm : i ∈ D.keys := (D.mem_keys i).2 ⟨by rw [HD.out.n16]; exact hi, hp⟩
              have h1 : D.ikeys.length = D.keys.length := by simp [PD.ikeys]
              have h2 := List.length_pos_of_mem hm
              exact beq_eq_false_iff_ne.2 (by omega)
            clear HP
            go_wp2_with fail
            go_ret
            exact ⟨rfl, B6.out⟩
set_option maxHeartbeats 1000000 in
theorem DiskApart_true_ (w : World) (A : Option Addr) (c : Nat) (l : List Int) (hn : l.length ≤ 60) (hr : ReadI w A l.length l) : Calls Try.prog 5 #[.slice A l.length c, .bool true] w fun e w' => e = .returned (.bool true) ∧ Below w.heap.size w w' := by
  have HRd := Fact.mk hr
  clear hr
  go_enter Try.func5, Try.ntmps5
  go_wp2_with fail
  refine (anchor_true w).mono ?_
  rintro e w1 ⟨rfl, b1⟩
  have B1 := Fact.mk b1
  clear b1
  go_wp2_with fail
  refine (New_good (n := 16) (by omega) (by omega)).mono ?_
  rintro e w2 ⟨L, rfl, h2, hl, b2⟩
  have H2 := Fact.mk h2
  have HL := Fact.mk (fun k hk => Nat.le_trans B1.out.size (hl k hk))
  have B2 := Fact.mk (next_new B1.out b2)
  clear h2 hl b2 B1
  go_wp2_with fail
  have H3 : Fact (∃ f D, ApartAt (w2.alloc (.cells #[.int .u8 0, .int .u8 0, .int .u8 0, .int .u8 0, .int .u8 0, .int .u8 0, .int .u8 0, .int .u8 0, .int .u8 0, .int .u8 0, .int .u8 0, .int .u8 0, .int .u8 0, .int .u8 0, .int .u8 0, .int .u8 0] 37)) L w2.heap.size true 0 f D) :=
    ⟨fun _ => 0, PD.new 16, H2.out.alloc _, PD.Up.new 16, rfl, fun _ => rfl, fun i _ => rfl, fun _ _ => rfl, fun _ h => absurd h (by omega), heap_alloc_new _ _⟩
  have B3 := Fact.mk (B2.out.alloc B2.out.size (.cells #[.int .u8 0, .int .u8 0, .int .u8 0, .int .u8 0, .int .u8 0, .int .u8 0, .int .u8 0, .int .u8 0, .int .u8 0, .int .u8 0, .int .u8 0, .int .u8 0, .int .u8 0, .int .u8 0, .int .u8 0, .int .u8 0] 37))
  have HG := Fact.mk (And.intro (H2.out.fresh (Nat.le_refl _)) B2.out.size)
  generalize (w2.alloc (.cells #[.int .u8 0, .int .u8 0, .int .u8 0, .int .u8 0, .int .u8 0, .int .u8 0, .int .u8 0, .int .u8 0, .int .u8 0, .int .u8 0, .int .u8 0, .int .u8 0, .int .u8 0, .int .u8 0, .int .u8 0, .int .u8 0] 37)) = w3 at *
  clear H2 B2
  generalize w2.heap.size = g at *
  clear w2
  go_loopw [24] (fun v24 wr => ∃ j : Nat, v24 = .int .i64 (j : Int) ∧ j ≤ l.length ∧ Fact (∃ f D, ApartAt wr L g true j f D) ∧ Fact (Below w.heap.size w wr)) (fun v _ => l.length - (intOf v).toNat)
  case atStart => exact ⟨0, rfl, Nat.zero_le _, H3, B3⟩
  case round =>
    obtain ⟨j, rfl, hj, R1, R2⟩ := hrel
    clear H3 B3
    by_cases hlt : j < l.length
    · obtain ⟨ad, hA, hc⟩ := int_cell (Kd.C_below HRd.out R2.out) hlt
      subst hA
      have hlt2 : (j : Int) < (l.length : Int) := by omega
      obtain ⟨f, D, hD⟩ := R1.out
      have HD := Fact.mk hD
      clear hD R1
      generalize l.getD j 0 = x at *
      obtain ⟨q, hq, hqe⟩ : ∃ q : Nat, q < 16 ∧ (wrap64 (x.tmod 16 + 16)).tmod 16 = (q : Int) := by
        have h1 := Int.tmod_lt_of_pos x (show (0 : Int) < 16 by omega)
        have h2 : -16 < x.tmod 16 := by
          rcases Int.le_total 0 x with h | h
          · have := Int.tmod_nonneg 16 h; omega
          · have := Int.tmod_lt_of_pos (-x) (show (0 : Int) < 16 by omega)
            rw [Int.neg_tmod] at this; omega
        have h3 : wrap64 (x.tmod 16 + 16) = x.tmod 16 + 16 := by unfold wrap64; omega
        rw [h3]
        have h4 := Int.tmod_nonneg 16 (show 0 ≤ x.tmod 16 + 16 by omega)
        have h5 := Int.tmod_lt_of_pos (x.tmod 16 + 16) (show (0 : Int) < 16 by omega)
        exact ⟨((x.tmod 16 + 16).tmod 16).toNat, by omega, by omega⟩
      have HQ := Fact.mk hqe
      have hq2 : (q : Int) < 16 := by omega
      clear hqe
      go_wp2_with fail
      rw [HQ.out]
      have HW := Fact.mk (fun y : Int => HD.out.up.write (b := [y]) (by rw [HD.out.n16]; exact hq) (by simp))
      refine (Write_to (HD.out.disk.alloc _) (q : Int) [_] wr.heap.size 1 (bytes_new wr [_] 5 (by simp)) (HD.out.disk.fresh (Nat.le_refl _)) (HW.out _)).mono ?_
      rintro e w4 ⟨rfl, h4, o4⟩
      have H4 := Fact.mk h4
      have hgr : g < wr.heap.size := (Array.getElem?_eq_some_iff.1 HD.out.row).1
      have G4 : Fact (w4.heap[g]? = wr.heap[g]?) := ⟨(o4.block g (by simp; omega) HG.out.1).trans (Below.heap_alloc _ _ _ hgr)⟩
      have B4 := Fact.mk (next_alloc R2.out o4 HL.out)
      clear h4 o4 hgr
      go_wp2_with fail
      refine (Flush_to H4.out (HD.out.up.put q _).flush).mono ?_
      rintro e w5 ⟨rfl, h5, o5⟩
      have H5 := Fact.mk h5
      have G5 : Fact (w5.heap[g]? = wr.heap[g]?) := ⟨(o5.block g (by have := (Array.getElem?_eq_some_iff.1 (G4.out.trans HD.out.row)).1; exact this) HG.out.1).trans G4.out⟩
      have B5 := Fact.mk (next_below B4.out o5 HL.out)
      clear h5 o5 H4 G4 B4
      have cg : w5.cell? ⟨g, q, none⟩ = some (.int .u8 (f q)) := by rw [cell_of_row _ _ _ _ _ _ (G5.out.trans HD.out.row), row16_get f hq]
      have fg : w5.frozen? ⟨g, q, none⟩ = false := frozen_of_row _ _ _ _ _ (G5.out.trans HD.out.row)
      go_wp2_with fail
      exact ⟨⟨j + 1, by go_num, by omega, ⟨⟨_, _, apart_t HD.out hq H5.out HG.out.1 G5.out⟩⟩, ⟨B5.out.trans ((Only.setCell (S := fun k => k = g) w5 rfl _).below B5.out.size (fun k hk => by subst hk; exact HG.out.2))⟩⟩, by simp [intOf]; omega⟩
    · have he : j = l.length := by omega
      subst he
      have hlt2 : ¬ ((l.length : Int) < (l.length : Int)) := by omega
      obtain ⟨f, D, hD⟩ := R1.out
      have HD := Fact.mk hD
      have HI : Fact ((Try.prog.info? 37).map (·.size) = some ((List.range 16).map fun i => Value.int .u8 (f i)).toArray.size) := ⟨by rw [size16]; simp⟩
      have HX : Fact (∀ (q : Nat) (hq : q < 16) (W : World), (Instr.index 37 (.agg ((List.range 16).map fun i => Value.int .u8 (f i)).toArray) (.int .i64 (q : Int))).run Try.prog W = .ok (.int .u8 (f q)) W) := ⟨fun q hq W => index16 hq (row16_get f hq) W⟩
      have HRow := Fact.mk hD.row
      clear hD R1
      generalize ((List.range 16).map fun i => Value.int .u8 (f i)).toArray = cs at *
      go_wp2_with (refine wpList_load_row rfl 37 (.tmp 6) rfl g rfl 37 cs (0, 0) _ HRow.out Try.underlying37 rfl HI.out ?_)
      have HS : Fact (IsDisk wr L D) := ⟨HD.out.disk⟩
      obtain ⟨w0, rfl⟩ : ∃ w0 : World, w0 = wr := ⟨_, rfl⟩
      go_loopw [56] (fun v56 wr => ∃ q : Nat, v56 = .int .i64 (q : Int) ∧ q ≤ 16 ∧ Fact (IsDisk wr L D) ∧ Fact (Below w.heap.size w wr)) (fun v _ => 16 - (intOf v).toNat)
      case atStart => exact ⟨0, rfl, Nat.zero_le _, HS, R2⟩
      case round =>
        obtain ⟨q, rfl, hq, S1, S2⟩ := hrel
        clear HS R2
        by_cases hlt3 : q < 16
        · have hlt4 : (q : Int) < 16 := by omega
          have hix := HX.out q hlt3
          have HRd2 : Fact (D.read (q : Int) = (pad [f q], 0)) := ⟨by rw [HD.out.up.read (by rw [HD.out.n16]; exact hlt3) (HD.out.good q), HD.out.now q hlt3]⟩
          generalize f q = y at *
          go_wp2_with fail
          refine (Read_to S1.out (q : Int) HRd2.out (pad_length _)).mono ?_
          rintro e w5 ⟨g5, c5, rfl, r5, l5, s5, h5, b5⟩
          have c50 : w5.cell? ⟨g5, 0, none⟩ = some (.int .u8 y) := own_cell r5 0 y (pad_at y).1
          have c53 : w5.cell? ⟨g5, 63, none⟩ = some (.int .u8 0) := own_cell r5 63 0 (pad_at y).2
          have H5 := Fact.mk h5
          have B5 := Fact.mk (next_new S2.out b5)
          clear r5 l5 s5 h5 b5
          go_wp2_with fail
          exact ⟨⟨q + 1, by go_num, by omega, H5, B5⟩, by simp [intOf]; omega⟩
        · have he : q = 16 := by omega
          subst he
          go_wp2_with fail
          refine (Pending_any S1.out).mono ?_
          rintro e w6 ⟨v, rfl, r6, b6⟩
          obtain ⟨A6, c6, rfl, _⟩ := Kd.R_reads r6
          have B6 := Fact.mk (next_new S2.out b6)
          have HP := HD.out.pend
          clear r6 b6
          have hk : D.ikeys = [] := by
            unfold PD.ikeys PD.keys
            rw [List.filter_eq_nil_iff.2 (fun i _ => by rw [HP rfl i]; simp)]; rfl
          rw [hk]
          clear hk HP
          go_wp2_with fail
          go_ret
          exact ⟨rfl, B6.out⟩
/-- The law's function. -/
theorem DiskApart_true (w : World) (A : Option Addr) (c : Nat) (l : List Int) (hr : ReadI w A l.length l) (_ : l.length ≤ c) (_ : l.length ≤ 9223372036854775807 ∧ ∀ x ∈ l, (Lit.int .i64 x).wf = true) (b : Bool) : Calls Try.prog 5 #[.slice A l.length c, .bool b] w fun e w' => e = .returned (.bool true) ∧ Below w.heap.size w w' := by
  by_cases h : l.length ≤ 60
  · cases b with
    | false => exact DiskApart_false w A c l h hr
    | true => exact DiskApart_true_ w A c l h hr
  · exact DiskApart_out w A l.length c b (by omega)
end Go.Proofs.Ytldefibkaoboeaa.Dk
