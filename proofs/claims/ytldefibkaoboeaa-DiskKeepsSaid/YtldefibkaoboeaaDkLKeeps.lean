/-
The law DiskKeeps: true.
-/
import Derived.Test.YtldefibkaoboeaaDkLBad
namespace Go.Proofs.Ytldefibkaoboeaa.Dk
open Go.RowKit Go.Maps Go.Proofs.YtldefibkaoboeaaW.PrintWords Go.Proofs.YtldefibkaoboeaaW.PrintLast Go.Proofs.YtldefibkaoboeaaW.PrintMore
set_option linter.unusedVariables false
set_option linter.unusedSimpArgs false

theorem DiskKeeps_out (w : World) (A B C : Option Addr) (n m k c d e : Nat) (h : 20 < n ∨ n ≤ 20 ∧ 20 < m ∨ n ≤ 20 ∧ m ≤ 20 ∧ 40 < k) : Calls Try.prog 4 #[.slice A n c, .slice B m d, .slice C k e] w fun e w' => e = .returned (.bool true) ∧ Below w.heap.size w w' := by
  rcases h with h | ⟨h1, h2⟩ | ⟨h1, h2, h3⟩
  · have h2 : (20 : Int) < (n : Int) := by omega
    go_enter Try.func4, Try.ntmps4
    go_wp2_with fail
    refine (anchor_true w).mono ?_
    rintro e w1 ⟨rfl, b1⟩
    have B1 := Fact.mk b1
    clear b1
    go_wp2_with fail
    go_ret
    exact ⟨rfl, B1.out⟩
  · have g1 : (n : Int) ≤ 20 := by omega
    have g2 : (20 : Int) < (m : Int) := by omega
    go_enter Try.func4, Try.ntmps4
    go_wp2_with fail
    refine (anchor_true w).mono ?_
    rintro e w1 ⟨rfl, b1⟩
    have B1 := Fact.mk b1
    clear b1
    go_wp2_with fail
    go_ret
    exact ⟨rfl, B1.out⟩
  · have g1 : (n : Int) ≤ 20 := by omega
    have g2 : (m : Int) ≤ 20 := by omega
    have g3 : (40 : Int) < (k : Int) := by omega
    go_enter Try.func4, Try.ntmps4
    go_wp2_with fail
    refine (anchor_true w).mono ?_
    rintro e w1 ⟨rfl, b1⟩
    have B1 := Fact.mk b1
    clear b1
    go_wp2_with fail
    go_ret
    exact ⟨rfl, B1.out⟩
/-- Rows of bytes that are read. -/
abbrev ReadRows (w : World) (A : Option Addr) (n : Nat) (l : List (List Int)) : Prop := Kd.C (Kd.slice 5 (Kd.int .u8)) w A n l
theorem rows_cell {w : World} {A : Option Addr} {l : List (List Int)} (h : ReadRows w A l.length l) {k : Nat} (hk : k < l.length) : ∃ ad Aj cj, A = some ad ∧ w.cell? (ad.add k) = some (.slice Aj (l.getD k []).length cj) ∧ ReadB w Aj (l.getD k []).length (l.getD k []) := by
  obtain ⟨ad, e, hc⟩ := h.2.2 (by omega)
  obtain ⟨c, h1, ⟨Aj, cj, h2, h5, h6⟩, h3⟩ := hc k l[k] (List.getElem?_eq_getElem hk)
  have h4 : l.getD k [] = l[k] := by rw [List.getD_eq_getElem?_getD, List.getElem?_eq_getElem hk]; rfl
  rw [h4]
  refine ⟨ad, Aj, cj, e, ?_, h6⟩
  have := h3 0 (.slice Aj l[k].length cj) (by rw [h2]; rfl)
  simpa [Kd.slice] using this
theorem Write_read {w wr : World} {L : DL} {D : PD} (h : IsDisk wr L D) (hB : Below w.heap.size w wr) (hL : ∀ k, L.S k → w.heap.size ≤ k) (i : Int) {b : List Int} {A : Option Addr} {c : Nat} (hb : ReadB w A b.length b) {r : Int} {D' : PD} (hr : D.write i b = (r, D')) :
    Calls Try.prog 11 #[.pointer (some ⟨L.p, 0, none⟩), .int .i64 i, .slice A b.length c] wr fun e w' => e = .returned (.int .i64 r) ∧ IsDisk w' L D' ∧ Only L.S wr w' := by
  refine (Write_any h i A c b (Kd.C_below hb hB) (fun w' ho => Kd.C_below hb (next_below hB ho hL))).mono ?_
  rintro e w' ⟨rfl, h1, h2⟩
  rw [hr] at h1 ⊢
  exact ⟨rfl, h1, h2⟩
/-- Behind j writes of the first row. -/
structure Keep1 (a : List (List Int)) (j : Nat) (D : PD) : Prop where
  up : PD.Up D
  n20 : D.n = 20
  good : ∀ i, D.bad i = false
  now : ∀ i, D.now i = pad (if i < j then a.getD i [] else [])
  le : ∀ i, i < j → (a.getD i []).length ≤ 64
theorem Keep1.start (a : List (List Int)) : Keep1 a 0 (PD.new 20) := ⟨PD.Up.new 20, rfl, fun _ => rfl, fun i => by simp [PD.now, PD.new]; rfl, fun i h => by omega⟩
theorem Keep1.step {a : List (List Int)} {j : Nat} {D : PD} (h : Keep1 a j D) (hx : (a.getD j []).length ≤ 64) : Keep1 a (j + 1) (D.put j (pad (a.getD j []))) :=
  ⟨h.up.put _ _, h.n20, h.good, fun i => by
    by_cases e : i = j
    · subst e; rw [PD.now_put_same, if_pos (by omega)]
    · rw [PD.now_put_other D e, h.now]
      by_cases hi : i < j
      · rw [if_pos hi, if_pos (by omega)]
      · rw [if_neg hi, if_neg (by omega)], fun i hi => by
    by_cases e : i = j
    · subst e; exact hx
    · exact h.le i (by omega)⟩
/-- Behind j writes of the second row. -/
structure Keep2 (a b : List (List Int)) (j : Nat) (D : PD) : Prop where
  up : PD.Up D
  n20 : D.n = 20
  good : ∀ i, D.bad i = false
  st : ∀ i, D.st i = pad (a.getD i [])
  pe : ∀ i, D.pe i = if i < j then some (pad (b.getD i [])) else none
  lea : ∀ i, (a.getD i []).length ≤ 64
  leb : ∀ i, i < j → (b.getD i []).length ≤ 64
theorem Keep2.start {a b : List (List Int)} {D : PD} (h : Keep1 a a.length D) : Keep2 a b 0 (D.stand fun _ => true) :=
  ⟨h.up.stand _, h.n20, h.good, fun i => by
    have h1 := PD.now_flush D i
    rw [h.now] at h1
    rw [show (D.stand fun _ => true).st i = (D.stand fun _ => true).now i from rfl, h1]
    by_cases hi : i < a.length
    · rw [if_pos hi]
    · rw [if_neg hi, List.getD_eq_getElem?_getD, List.getElem?_eq_none (by omega)]; rfl, fun i => by rw [if_neg (by omega)]; rfl, fun i => by
    by_cases hi : i < a.length
    · exact h.le i hi
    · rw [List.getD_eq_getElem?_getD, List.getElem?_eq_none (by omega)]; simp, fun i hi => by omega⟩
theorem Keep2.step {a b : List (List Int)} {j : Nat} {D : PD} (h : Keep2 a b j D) (hx : (b.getD j []).length ≤ 64) : Keep2 a b (j + 1) (D.put j (pad (b.getD j []))) :=
  ⟨h.up.put _ _, h.n20, h.good, h.st, fun i => by
    simp only [PD.put]
    by_cases e : i = j
    · subst e; rw [if_pos rfl, if_pos (by omega)]
    · rw [if_neg e, h.pe]
      by_cases hi : i < j
      · rw [if_pos hi, if_pos (by omega)]
      · rw [if_neg hi, if_neg (by omega)], h.lea, fun i hi => by
    by_cases e : i = j
    · subst e; exact hx
    · exact h.leb i (by omega)⟩
def wantOf (a b : List (List Int)) (keep : List Bool) (i : Nat) : List Int := if i < b.length ∧ keep.getD i false = true then b.getD i [] else a.getD i []
theorem Keep2.rank {a b : List (List Int)} {j : Nat} {D : PD} (h : Keep2 a b j D) {i : Nat} (hi : i < j) : D.rank i = i := by
  unfold PD.rank
  rw [List.filter_eq_self.2 (fun k hk => by rw [h.pe, if_pos (by have := List.mem_range.1 hk; omega)]; rfl), List.length_range]
theorem Keep2.read {a b : List (List Int)} {D : PD} (h : Keep2 a b b.length D) (keep : List Bool) {i : Nat} (hi : i < 20) : (D.crash keep).read (i : Int) = (pad (wantOf a b keep i), 0) := by
  rw [(PD.Up.crash D keep).read (by show i < D.n; rw [h.n20]; exact hi) (h.good i)]
  congr 1
  show (match D.pe i with | some c => if keep.getD (D.rank i) false then c else D.st i | none => D.st i) = _
  rw [h.pe, wantOf]
  by_cases h1 : i < b.length
  · rw [if_pos h1, h.rank h1]
    cases hk : keep.getD i false with
    | true => simp [h1]
    | false => simp [h1, h.st]
  · rw [if_neg h1, if_neg (fun hh => h1 hh.1), h.st]
theorem made64 : ∀ W : World, (Instr.makeSlice 22 (.int .i64 64) (.int .i64 64)).run Try.prog W = .ok (.slice (some ⟨W.heap.size, 0, none⟩) 64 64) (W.alloc (.cells zc 5)) := by
  intro W
  have := print_make (P := Try.prog) 22 5 .u8 1 Try.underlying22 info_u8 (by omega) 64 (by omega) W
  have e : madeCells #[.int .u8 0] 64 = zc := by kernel_rfl
  rw [← e]; exact this
theorem copy_to (W : World) (Z : Array Value) (hZ : Z.toList = zlist) (t : TypeId) (A : Option Addr) (c : Nat) (b : List Int) (ty : TypeId) (hb : b.length ≤ 64) (hr : ReadB W A b.length b) :
    (Builtin.copy_ #[22, 22] ty #[.slice (some ⟨W.heap.size, 0, none⟩) 64 64, .slice A b.length c]).run Try.prog (W.alloc (.cells Z t)) = .ok (.int .i64 (b.length : Int)) (W.alloc (.cells ((pad b).map (Value.int .u8)).toArray t)) := by
  have hs : (Try.prog.info? 5).map (·.size) = some 1 := by kernel_rfl
  have hZs : Z.size = 64 := by rw [← Array.length_toList, hZ]; simp [zlist]
  rcases Nat.eq_zero_or_pos b.length with h0 | h0
  · obtain rfl : b = [] := List.length_eq_zero_iff.1 h0
    have := run_copy_none (P := Try.prog) (W.alloc (.cells Z t)) 22 22 ty 5 (some ⟨W.heap.size, 0, none⟩) A 64 64 0 c Try.underlying22 hs (by rfl)
    have hz : Z = ((pad []).map (Value.int .u8)).toArray := by
      apply Array.toList_inj.1
      rw [hZ, ← pad_cells (by simp)]; rfl
    rw [← hz]
    exact this
  · obtain ⟨ad, rfl, hc⟩ := hr.2.2 h0
    have hr2 := Kd.C_below hr ((Below.refl _ _).alloc (Nat.le_refl _) (.cells Z t))
    have hlen : (b.map (Value.int .u8)).length = b.length := List.length_map ..
    have := run_copy_cells (P := Try.prog) (W.alloc (.cells Z t)) 22 22 ty 5 W.heap.size 0 64 64 ad b.length c (b.map (Value.int .u8)) Try.underlying22 hs (by rw [hlen]; show b.length = min b.length 64; omega)
      (fun j v hv => by
        obtain ⟨ad2, e, hc2⟩ := hr2.2.2 h0
        cases e
        rw [List.getElem?_map] at hv
        cases hq : b[j]? with
        | none => rw [hq] at hv; cases hv
        | some x =>
          rw [hq] at hv
          obtain ⟨c', hc3, hc4, hc5⟩ := hc2 j x hq
          have := hc5 0 v (by rw [show c' = [.int .u8 x] from hc4]; exact hv)
          simpa [Kd.int, Kd.scalar] using this)
      (fun j hj => by rw [cell_of_row _ _ _ _ _ _ (heap_alloc_new W _), Array.getElem?_eq_getElem (by rw [hlen] at hj; omega)]; rfl)
      (fun j hj => frozen_of_row _ _ _ _ _ (heap_alloc_new W _)) (by intro v hv; obtain ⟨x, _, rfl⟩ := List.mem_map.1 hv; rfl)
    rw [hlen] at this
    rw [setCells_new W Z _ _ (by rw [hlen]; omega), hlen, hZ, pad_cells hb] at this
    exact this
theorem own_reads_ {w : World} {base n c : Nat} {ok : Nat → Prop} {A : Option Addr} {l : List Int} (h : OwnB w base ok (.slice A n c) l) : n = l.length ∧ n ≤ c ∧ ReadB w A l.length l := by
  obtain ⟨A', c', e, h2, h3⟩ := Kd.R_reads h
  injection e with e1 e2 e3
  subst e1 e2 e3
  exact ⟨rfl, h2, h3⟩
theorem conv_own {w : World} {base n c : Nat} {ok : Nat → Prop} {A : Option Addr} {l : List Int} (h : OwnB w base ok (.slice A n c) l) (o : Obj) : (convert 22 9 (.slice A n c)).run Try.prog (w.alloc o) = .ok (.string (strOfNums l)) (w.alloc o) := by
  have h1 := own_reads_ (Kd.R_below h ((Below.refl _ _).alloc (Nat.le_refl _) o))
  have h2 := h1.2.2
  rw [← h1.1] at h2
  exact Kd.C_string Try.underlying22 Try.underlying5 Try.underlying9 h2
theorem conv_new (w : World) (l : List Int) (hl : l.length = 64) : (convert 22 9 (.slice (some ⟨w.heap.size, 0, none⟩) 64 64)).run Try.prog (w.alloc (.cells (l.map (Value.int .u8)).toArray 5)) = .ok (.string (strOfNums l)) (w.alloc (.cells (l.map (Value.int .u8)).toArray 5)) := by
  have h2 := (bytes_new w l 5 (by omega)).reads
  rw [hl] at h2
  exact Kd.C_string Try.underlying22 Try.underlying5 Try.underlying9 h2
set_option maxHeartbeats 4000000 in
set_option maxRecDepth 100000 in
theorem DiskKeeps_in (w : World) (A B C : Option Addr) (c d e : Nat) (a b : List (List Int)) (keep : List Bool) (h1 : a.length ≤ 20) (h2 : b.length ≤ 20) (h3 : keep.length ≤ 40) (ha : ReadRows w A a.length a) (hb : ReadRows w B b.length b) (hk : ReadBool w C keep.length keep) :
    Calls Try.prog 4 #[.slice A a.length c, .slice B b.length d, .slice C keep.length e] w fun e w' => e = .returned (.bool true) ∧ Below w.heap.size w w' := by
  have RA := Fact.mk ha
  have RB := Fact.mk hb
  have RC := Fact.mk hk
  clear ha hb hk
  go_enter Try.func4, Try.ntmps4
  go_wp2_with fail
  refine (anchor_true w).mono ?_
  rintro e w1 ⟨rfl, b1⟩
  have B1 := Fact.mk b1
  clear b1
  go_wp2_with fail
  refine (New_good (n := 20) (by omega) (by omega)).mono ?_
  rintro e w2 ⟨L, rfl, h2, hl, b2⟩
  have H2 : Fact (∃ D, IsDisk w2 L D ∧ Keep1 a 0 D) := ⟨_, h2, Keep1.start a⟩
  have HL := Fact.mk (fun k hk => Nat.le_trans B1.out.size (hl k hk))
  have B2 := Fact.mk (next_new B1.out b2)
  clear h2 hl b2 B1
  go_wp2_with fail
  go_loopw [37] (fun v37 wr => ∃ j : Nat, v37 = .int .i64 (j : Int) ∧ j ≤ a.length ∧ Fact (∃ D, IsDisk wr L D ∧ Keep1 a j D) ∧ Fact (Below w.heap.size w wr)) (fun v _ => a.length - (intOf v).toNat)
  case atStart => exact ⟨0, rfl, Nat.zero_le _, H2, B2⟩
  case round =>
    obtain ⟨j, rfl, hj, R1, R2⟩ := hrel
    clear H2 B2
    by_cases hlt : j < a.length
    · have hlt2 : (j : Int) < (a.length : Int) := by omega
      obtain ⟨ad, Aj, cj, hA, hc, hx⟩ := rows_cell RA.out hlt
      subst hA
      have hcell : wr.cell? (ad.add j) = some (.slice Aj (a.getD j []).length cj) := pw_cell_below R2.out hc
      have HX := Fact.mk hx
      obtain ⟨D, hD, hK⟩ := R1.out
      have HD := Fact.mk hD
      have HK := Fact.mk (fun hx => hK.step hx)
      have HW := Fact.mk (fun hx => hK.up.write (i := j) (b := a.getD j []) (by rw [hK.n20]; omega) hx)
      clear hc hx hD hK R1
      generalize a.getD j [] = x at *
      by_cases hx : x.length ≤ 64
      · have hx2 : (x.length : Int) ≤ 64 := by omega
        go_wp2_with fail
        refine (Write_read HD.out R2.out HL.out (j : Int) HX.out (HW.out hx)).mono ?_
        rintro e w4 ⟨rfl, h4, o4⟩
        have H4 := Fact.mk h4
        have B4 := Fact.mk (next_below R2.out o4 HL.out)
        clear h4 o4
        go_wp2_with fail
        exact ⟨⟨j + 1, by go_num, by omega, ⟨⟨_, H4.out, HK.out hx⟩⟩, B4⟩, by simp [intOf]; omega⟩
      · have hx2 : (64 : Int) < (x.length : Int) := by omega
        go_wp2_with fail
        go_ret
        exact ⟨rfl, R2.out⟩
    · have he : j = a.length := by omega
      subst he
      have hlt2 : ¬ ((a.length : Int) < (a.length : Int)) := by omega
      obtain ⟨D, hD, hK⟩ := R1.out
      have HD := Fact.mk hD
      have HF := Fact.mk hK.up.flush
      have HK2 := Fact.mk (Keep2.start (b := b) hK)
      clear hD hK R1
      go_wp2_with fail
      refine (Flush_to HD.out HF.out).mono ?_
      rintro e w5 ⟨rfl, h5, o5⟩
      have H5 : Fact (∃ D, IsDisk w5 L D ∧ Keep2 a b 0 D) := ⟨_, h5, HK2.out⟩
      have B5 := Fact.mk (next_below R2.out o5 HL.out)
      clear h5 o5 HD HF HK2 R2
      go_wp2_with fail
      clear hlt hlt2 hj
      go_loopw [61] (fun v61 wr => ∃ j : Nat, v61 = .int .i64 (j : Int) ∧ j ≤ b.length ∧ Fact (∃ D, IsDisk wr L D ∧ Keep2 a b j D) ∧ Fact (Below w.heap.size w wr)) (fun v _ => b.length - (intOf v).toNat)
      case atStart => exact ⟨0, rfl, Nat.zero_le _, H5, B5⟩
      case round =>
        obtain ⟨j, rfl, hj, R1, R2⟩ := hrel
        clear H5 B5
        by_cases hlt : j < b.length
        · have hlt2 : (j : Int) < (b.length : Int) := by omega
          obtain ⟨ad, Aj, cj, hA, hc, hx⟩ := rows_cell RB.out hlt
          subst hA
          have hcell : wr.cell? (ad.add j) = some (.slice Aj (b.getD j []).length cj) := pw_cell_below R2.out hc
          have HX := Fact.mk hx
          obtain ⟨D, hD, hK⟩ := R1.out
          have HD := Fact.mk hD
          have HK := Fact.mk (fun hx => hK.step hx)
          have HW := Fact.mk (fun hx => hK.up.write (i := j) (b := b.getD j []) (by rw [hK.n20]; omega) hx)
          clear hc hx hD hK R1
          generalize b.getD j [] = x at *
          by_cases hx : x.length ≤ 64
          · have hx2 : (x.length : Int) ≤ 64 := by omega
            go_wp2_with fail
            refine (Write_read HD.out R2.out HL.out (j : Int) HX.out (HW.out hx)).mono ?_
            rintro e w4 ⟨rfl, h4, o4⟩
            have H4 := Fact.mk h4
            have B4 := Fact.mk (next_below R2.out o4 HL.out)
            clear h4 o4
            go_wp2_with fail
            exact ⟨⟨j + 1, by go_num, by omega, ⟨⟨_, H4.out, HK.out hx⟩⟩, B4⟩, by simp [intOf]; omega⟩
          · have hx2 : (64 : Int) < (x.length : Int) := by omega
            go_wp2_with fail
            go_ret
            exact ⟨rfl, R2.out⟩
        · have he : j = b.length := by omega
          subst he
          have hlt2 : ¬ ((b.length : Int) < (b.length : Int)) := by omega
          obtain ⟨D, hD, hK⟩ := R1.out
          have HD := Fact.mk hD
          have HR := Fact.mk (fun i (hi : i < 20) => hK.read keep hi)
          have HLe := Fact.mk (And.intro hK.lea hK.leb)
          clear hD hK R1
          go_wp2_with fail
          refine (Crash_any HD.out C _ keep (fun W ho => Kd.C_below RC.out (next_below R2.out ho HL.out))).mono ?_
          rintro e w6 ⟨rfl, h6, o6⟩
          have H6 := Fact.mk h6
          have B6 := Fact.mk (next_below R2.out o6 HL.out)
          clear h6 o6 HD R2
          go_wp2_with fail
          have S0 := H6
          clear hlt hlt2 hj H6
          have B0 := B6
          clear B6
          go_loopw [83] (fun v83 wr => ∃ i : Nat, v83 = .int .i64 (i : Int) ∧ i ≤ 20 ∧ Fact (IsDisk wr L (D.crash keep)) ∧ Fact (Below w.heap.size w wr)) (fun v _ => 20 - (intOf v).toNat)
          case atStart => exact ⟨0, rfl, Nat.zero_le _, S0, B0⟩
          case round =>
            obtain ⟨i, rfl, hi, S1, S2⟩ := hrel
            clear S0 B0
            by_cases hlt3 : i < 20
            · have hlt4 : (i : Int) < 20 := by omega
              by_cases hia : i < a.length
              · have d1 : decide (i < a.length) = true := by simpa using hia
                have d1b :  (i : Int) < (a.length : Int) := by omega
                obtain ⟨ada, Aa, ca, hA, hca, hxa⟩ := rows_cell RA.out hia
                subst hA
                have HCA : Fact (∀ w', Below w.heap.size w w' → w'.cell? (ada.add i) = some (.slice Aa (a.getD i []).length ca)) := ⟨fun w' hb => pw_cell_below hb hca⟩
                have HXA := Fact.mk (And.intro hxa (HLe.out.1 i))
                clear hca hxa
                by_cases hib : i < b.length
                · by_cases hik : i < keep.length
                  · have d2 : decide (i < b.length) = true := by simpa using hib
                    have d2b : (i : Int) < (b.length : Int) := by omega
                    have d3 : decide (i < keep.length) = true := by simpa using hik
                    have d3b : (i : Int) < (keep.length : Int) := by omega
                    obtain ⟨adk, hC, hck⟩ := bool_cell RC.out hik
                    subst hC
                    have HCK : Fact (∀ w', Below w.heap.size w w' → w'.cell? (adk.add i) = some (.bool (keep.getD i false))) := ⟨fun w' hb => pw_cell_below hb hck⟩
                    clear hck
                    cases hkv : keep.getD i false with
                    | false =>
                      rw [hkv] at HCK
                      have HKV := Fact.mk hkv
                      clear hkv
                      have HRd : Fact ((D.crash keep).read (i : Int) = (pad (a.getD i []), 0)) := ⟨by rw [HR.out i hlt3]; unfold wantOf; rw [if_neg (by intro h; rw [HKV.out] at h; cases h.2)]⟩
                      generalize a.getD i [] = xa at *
                      go_wp2_with fail
                      refine (Read_to S1.out (i : Int) HRd.out (pad_length _)).mono ?_
                      rintro e w7 ⟨g7, c7, rfl, r7, l7, s7, h7, b7⟩
                      have H7 := Fact.mk h7
                      have B7 := Fact.mk (next_new S2.out b7)
                      have ca7 := HCA.out w7 B7.out
                      have ck7 := HCK.out w7 B7.out
                      have hmk := made64
                      have hcp : ∀ (c : Nat) (ty : TypeId), (Builtin.copy_ #[22, 22] ty #[.slice (some ⟨w7.heap.size, 0, none⟩) 64 64, .slice Aa xa.length c]).run Try.prog (w7.alloc (.cells zc 5)) = .ok (.int .i64 (xa.length : Int)) (w7.alloc (.cells ((pad xa).map (Value.int .u8)).toArray 5)) := fun c ty => copy_to w7 zc rfl _ Aa c xa ty HXA.out.2 (Kd.C_below HXA.out.1 B7.out)
                      have cv1 : (convert 22 9 (.slice (some ⟨g7, 0, none⟩) 64 c7)).run Try.prog (w7.alloc (.cells ((pad xa).map (Value.int .u8)).toArray 5)) = .ok (.string (strOfNums (pad xa))) (w7.alloc (.cells ((pad xa).map (Value.int .u8)).toArray 5)) := conv_own r7 _
                      have cv2 : (convert 22 9 (.slice (some ⟨w7.heap.size, 0, none⟩) 64 64)).run Try.prog (w7.alloc (.cells ((pad xa).map (Value.int .u8)).toArray 5)) = .ok (.string (strOfNums (pad xa))) (w7.alloc (.cells ((pad xa).map (Value.int .u8)).toArray 5)) := conv_new w7 (pad xa) (pad_length _)
                      clear r7 l7 s7 h7 b7
                      generalize hpc : ((pad xa).map (Value.int .u8)).toArray = pc at *
                      generalize strOfNums (pad xa) = sp at *
                      clear hpc
                      go_wp2_with fail
                      exact ⟨⟨i + 1, by go_num, by omega, ⟨H7.out.alloc _⟩, ⟨B7.out.alloc B7.out.size _⟩⟩, by simp [intOf]; omega⟩
                    | true =>
                      rw [hkv] at HCK
                      have HKV := Fact.mk hkv
                      clear hkv
                      obtain ⟨adb, Ab, cb, hB, hcb, hxb⟩ := rows_cell RB.out hib
                      subst hB
                      have HCB : Fact (∀ w', Below w.heap.size w w' → w'.cell? (adb.add i) = some (.slice Ab (b.getD i []).length cb)) := ⟨fun w' hb => pw_cell_below hb hcb⟩
                      have HXB := Fact.mk (And.intro hxb (HLe.out.2 i hib))
                      clear hcb hxb
                      have HRd : Fact ((D.crash keep).read (i : Int) = (pad (b.getD i []), 0)) := ⟨by rw [HR.out i hlt3]; unfold wantOf; rw [if_pos ⟨hib, HKV.out⟩]⟩
                      generalize a.getD i [] = xa at *
                      generalize b.getD i [] = xb at *
                      go_wp2_with fail
                      refine (Read_to S1.out (i : Int) HRd.out (pad_length _)).mono ?_
                      rintro e w7 ⟨g7, c7, rfl, r7, l7, s7, h7, b7⟩
                      have H7 := Fact.mk h7
                      have B7 := Fact.mk (next_new S2.out b7)
                      have ca7 := HCA.out w7 B7.out
                      have ck7 := HCK.out w7 B7.out
                      have cb7 := HCB.out w7 B7.out
                      have hmk := made64
                      have hcp : ∀ (c : Nat) (ty : TypeId), (Builtin.copy_ #[22, 22] ty #[.slice (some ⟨w7.heap.size, 0, none⟩) 64 64, .slice Ab xb.length c]).run Try.prog (w7.alloc (.cells zc 5)) = .ok (.int .i64 (xb.length : Int)) (w7.alloc (.cells ((pad xb).map (Value.int .u8)).toArray 5)) := fun c ty => copy_to w7 zc rfl _ Ab c xb ty HXB.out.2 (Kd.C_below HXB.out.1 B7.out)
                      have cv1 : (convert 22 9 (.slice (some ⟨g7, 0, none⟩) 64 c7)).run Try.prog (w7.alloc (.cells ((pad xb).map (Value.int .u8)).toArray 5)) = .ok (.string (strOfNums (pad xb))) (w7.alloc (.cells ((pad xb).map (Value.int .u8)).toArray 5)) := conv_own r7 _
                      have cv2 : (convert 22 9 (.slice (some ⟨w7.heap.size, 0, none⟩) 64 64)).run Try.prog (w7.alloc (.cells ((pad xb).map (Value.int .u8)).toArray 5)) = .ok (.string (strOfNums (pad xb))) (w7.alloc (.cells ((pad xb).map (Value.int .u8)).toArray 5)) := conv_new w7 (pad xb) (pad_length _)
                      clear r7 l7 s7 h7 b7
                      generalize hpc : ((pad xb).map (Value.int .u8)).toArray = pc at *
                      generalize strOfNums (pad xb) = sp at *
                      clear hpc
                      go_wp2_with fail
                      exact ⟨⟨i + 1, by go_num, by omega, ⟨H7.out.alloc _⟩, ⟨B7.out.alloc B7.out.size _⟩⟩, by simp [intOf]; omega⟩
                  · have d2 : decide (i < b.length) = true := by simpa using hib
                    have d2b : (i : Int) < (b.length : Int) := by omega
                    have d3 : decide (i < keep.length) = false := by simpa using hik
                    have d3b : ¬ ((i : Int) < (keep.length : Int)) := by omega
                    have HRd : Fact ((D.crash keep).read (i : Int) = (pad (a.getD i []), 0)) := ⟨by rw [HR.out i hlt3]; unfold wantOf; rw [if_neg (by intro h; have h2 := h.2; rw [List.getD_eq_getElem?_getD, List.getElem?_eq_none (by omega)] at h2; cases h2)]⟩
                    generalize a.getD i [] = xa at *
                    go_wp2_with fail
                    refine (Read_to S1.out (i : Int) HRd.out (pad_length _)).mono ?_
                    rintro e w7 ⟨g7, c7, rfl, r7, l7, s7, h7, b7⟩
                    have H7 := Fact.mk h7
                    have B7 := Fact.mk (next_new S2.out b7)
                    have ca7 := HCA.out w7 B7.out
                    have hmk := made64
                    have hcp : ∀ (c : Nat) (ty : TypeId), (Builtin.copy_ #[22, 22] ty #[.slice (some ⟨w7.heap.size, 0, none⟩) 64 64, .slice Aa xa.length c]).run Try.prog (w7.alloc (.cells zc 5)) = .ok (.int .i64 (xa.length : Int)) (w7.alloc (.cells ((pad xa).map (Value.int .u8)).toArray 5)) := fun c ty => copy_to w7 zc rfl _ Aa c xa ty HXA.out.2 (Kd.C_below HXA.out.1 B7.out)
                    have cv1 : (convert 22 9 (.slice (some ⟨g7, 0, none⟩) 64 c7)).run Try.prog (w7.alloc (.cells ((pad xa).map (Value.int .u8)).toArray 5)) = .ok (.string (strOfNums (pad xa))) (w7.alloc (.cells ((pad xa).map (Value.int .u8)).toArray 5)) := conv_own r7 _
                    have cv2 : (convert 22 9 (.slice (some ⟨w7.heap.size, 0, none⟩) 64 64)).run Try.prog (w7.alloc (.cells ((pad xa).map (Value.int .u8)).toArray 5)) = .ok (.string (strOfNums (pad xa))) (w7.alloc (.cells ((pad xa).map (Value.int .u8)).toArray 5)) := conv_new w7 (pad xa) (pad_length _)
                    clear r7 l7 s7 h7 b7
                    generalize hpc : ((pad xa).map (Value.int .u8)).toArray = pc at *
                    generalize strOfNums (pad xa) = sp at *
                    clear hpc
                    go_wp2_with fail
                    exact ⟨⟨i + 1, by go_num, by omega, ⟨H7.out.alloc _⟩, ⟨B7.out.alloc B7.out.size _⟩⟩, by simp [intOf]; omega⟩
                · have d2 : decide (i < b.length) = false := by simpa using hib
                  have d2b : ¬ ((i : Int) < (b.length : Int)) := by omega
                  have HRd : Fact ((D.crash keep).read (i : Int) = (pad (a.getD i []), 0)) := ⟨by rw [HR.out i hlt3]; unfold wantOf; rw [if_neg (by intro h; exact hib h.1)]⟩
                  generalize a.getD i [] = xa at *
                  go_wp2_with fail
                  refine (Read_to S1.out (i : Int) HRd.out (pad_length _)).mono ?_
                  rintro e w7 ⟨g7, c7, rfl, r7, l7, s7, h7, b7⟩
                  have H7 := Fact.mk h7
                  have B7 := Fact.mk (next_new S2.out b7)
                  have ca7 := HCA.out w7 B7.out
                  have hmk := made64
                  have hcp : ∀ (c : Nat) (ty : TypeId), (Builtin.copy_ #[22, 22] ty #[.slice (some ⟨w7.heap.size, 0, none⟩) 64 64, .slice Aa xa.length c]).run Try.prog (w7.alloc (.cells zc 5)) = .ok (.int .i64 (xa.length : Int)) (w7.alloc (.cells ((pad xa).map (Value.int .u8)).toArray 5)) := fun c ty => copy_to w7 zc rfl _ Aa c xa ty HXA.out.2 (Kd.C_below HXA.out.1 B7.out)
                  have cv1 : (convert 22 9 (.slice (some ⟨g7, 0, none⟩) 64 c7)).run Try.prog (w7.alloc (.cells ((pad xa).map (Value.int .u8)).toArray 5)) = .ok (.string (strOfNums (pad xa))) (w7.alloc (.cells ((pad xa).map (Value.int .u8)).toArray 5)) := conv_own r7 _
                  have cv2 : (convert 22 9 (.slice (some ⟨w7.heap.size, 0, none⟩) 64 64)).run Try.prog (w7.alloc (.cells ((pad xa).map (Value.int .u8)).toArray 5)) = .ok (.string (strOfNums (pad xa))) (w7.alloc (.cells ((pad xa).map (Value.int .u8)).toArray 5)) := conv_new w7 (pad xa) (pad_length _)
                  clear r7 l7 s7 h7 b7
                  generalize hpc : ((pad xa).map (Value.int .u8)).toArray = pc at *
                  generalize strOfNums (pad xa) = sp at *
                  clear hpc
                  go_wp2_with fail
                  exact ⟨⟨i + 1, by go_num, by omega, ⟨H7.out.alloc _⟩, ⟨B7.out.alloc B7.out.size _⟩⟩, by simp [intOf]; omega⟩
              · have d1 : decide (i < a.length) = false := by simpa using hia
                have d1b : ¬ ( (i : Int) < (a.length : Int)) := by omega
                have HGA : Fact (a.getD i [] = []) := ⟨by rw [List.getD_eq_getElem?_getD, List.getElem?_eq_none (by omega)]; rfl⟩
                by_cases hib : i < b.length
                · by_cases hik : i < keep.length
                  · have d2 : decide (i < b.length) = true := by simpa using hib
                    have d2b : (i : Int) < (b.length : Int) := by omega
                    have d3 : decide (i < keep.length) = true := by simpa using hik
                    have d3b : (i : Int) < (keep.length : Int) := by omega
                    obtain ⟨adk, hC, hck⟩ := bool_cell RC.out hik
                    subst hC
                    have HCK : Fact (∀ w', Below w.heap.size w w' → w'.cell? (adk.add i) = some (.bool (keep.getD i false))) := ⟨fun w' hb => pw_cell_below hb hck⟩
                    clear hck
                    cases hkv : keep.getD i false with
                    | false =>
                      rw [hkv] at HCK
                      have HKV := Fact.mk hkv
                      clear hkv
                      have HRd : Fact ((D.crash keep).read (i : Int) = (pad [], 0)) := ⟨by rw [HR.out i hlt3]; unfold wantOf; rw [if_neg (by intro h; rw [HKV.out] at h; cases h.2)]; rw [HGA.out]⟩
                      go_wp2_with fail
                      refine (Read_to S1.out (i : Int) HRd.out (pad_length _)).mono ?_
                      rintro e w7 ⟨g7, c7, rfl, r7, l7, s7, h7, b7⟩
                      have H7 := Fact.mk h7
                      have B7 := Fact.mk (next_new S2.out b7)
                      have ck7 := HCK.out w7 B7.out
                      have hmk := made64
                      have hcp : ∀ (c : Nat) (ty : TypeId), (Builtin.copy_ #[22, 22] ty #[.slice (some ⟨w7.heap.size, 0, none⟩) 64 64, .slice none 0 c]).run Try.prog (w7.alloc (.cells zc 5)) = .ok (.int .i64 ((0 : Nat) : Int)) (w7.alloc (.cells ((pad ([] : List Int)).map (Value.int .u8)).toArray 5)) := fun c ty => copy_to w7 zc rfl _ none c ([] : List Int) ty (by simp) ⟨rfl, by simp, fun h => absurd h (by simp)⟩
                      have cv1 : (convert 22 9 (.slice (some ⟨g7, 0, none⟩) 64 c7)).run Try.prog (w7.alloc (.cells ((pad ([] : List Int)).map (Value.int .u8)).toArray 5)) = .ok (.string (strOfNums (pad ([] : List Int)))) (w7.alloc (.cells ((pad ([] : List Int)).map (Value.int .u8)).toArray 5)) := conv_own r7 _
                      have cv2 : (convert 22 9 (.slice (some ⟨w7.heap.size, 0, none⟩) 64 64)).run Try.prog (w7.alloc (.cells ((pad ([] : List Int)).map (Value.int .u8)).toArray 5)) = .ok (.string (strOfNums (pad ([] : List Int)))) (w7.alloc (.cells ((pad ([] : List Int)).map (Value.int .u8)).toArray 5)) := conv_new w7 (pad ([] : List Int)) (pad_length _)
                      clear r7 l7 s7 h7 b7
                      generalize hpc : ((pad ([] : List Int)).map (Value.int .u8)).toArray = pc at *
                      generalize strOfNums (pad ([] : List Int)) = sp at *
                      clear hpc
                      go_wp2_with fail
                      exact ⟨⟨i + 1, by go_num, by omega, ⟨H7.out.alloc _⟩, ⟨B7.out.alloc B7.out.size _⟩⟩, by simp [intOf]; omega⟩
                    | true =>
                      rw [hkv] at HCK
                      have HKV := Fact.mk hkv
                      clear hkv
                      obtain ⟨adb, Ab, cb, hB, hcb, hxb⟩ := rows_cell RB.out hib
                      subst hB
                      have HCB : Fact (∀ w', Below w.heap.size w w' → w'.cell? (adb.add i) = some (.slice Ab (b.getD i []).length cb)) := ⟨fun w' hb => pw_cell_below hb hcb⟩
                      have HXB := Fact.mk (And.intro hxb (HLe.out.2 i hib))
                      clear hcb hxb
                      have HRd : Fact ((D.crash keep).read (i : Int) = (pad (b.getD i []), 0)) := ⟨by rw [HR.out i hlt3]; unfold wantOf; rw [if_pos ⟨hib, HKV.out⟩]⟩
                      generalize b.getD i [] = xb at *
                      go_wp2_with fail
                      refine (Read_to S1.out (i : Int) HRd.out (pad_length _)).mono ?_
                      rintro e w7 ⟨g7, c7, rfl, r7, l7, s7, h7, b7⟩
                      have H7 := Fact.mk h7
                      have B7 := Fact.mk (next_new S2.out b7)
                      have ck7 := HCK.out w7 B7.out
                      have cb7 := HCB.out w7 B7.out
                      have hmk := made64
                      have hcp : ∀ (c : Nat) (ty : TypeId), (Builtin.copy_ #[22, 22] ty #[.slice (some ⟨w7.heap.size, 0, none⟩) 64 64, .slice Ab xb.length c]).run Try.prog (w7.alloc (.cells zc 5)) = .ok (.int .i64 (xb.length : Int)) (w7.alloc (.cells ((pad xb).map (Value.int .u8)).toArray 5)) := fun c ty => copy_to w7 zc rfl _ Ab c xb ty HXB.out.2 (Kd.C_below HXB.out.1 B7.out)
                      have cv1 : (convert 22 9 (.slice (some ⟨g7, 0, none⟩) 64 c7)).run Try.prog (w7.alloc (.cells ((pad xb).map (Value.int .u8)).toArray 5)) = .ok (.string (strOfNums (pad xb))) (w7.alloc (.cells ((pad xb).map (Value.int .u8)).toArray 5)) := conv_own r7 _
                      have cv2 : (convert 22 9 (.slice (some ⟨w7.heap.size, 0, none⟩) 64 64)).run Try.prog (w7.alloc (.cells ((pad xb).map (Value.int .u8)).toArray 5)) = .ok (.string (strOfNums (pad xb))) (w7.alloc (.cells ((pad xb).map (Value.int .u8)).toArray 5)) := conv_new w7 (pad xb) (pad_length _)
                      clear r7 l7 s7 h7 b7
                      generalize hpc : ((pad xb).map (Value.int .u8)).toArray = pc at *
                      generalize strOfNums (pad xb) = sp at *
                      clear hpc
                      go_wp2_with fail
                      exact ⟨⟨i + 1, by go_num, by omega, ⟨H7.out.alloc _⟩, ⟨B7.out.alloc B7.out.size _⟩⟩, by simp [intOf]; omega⟩
                  · have d2 : decide (i < b.length) = true := by simpa using hib
                    have d2b : (i : Int) < (b.length : Int) := by omega
                    have d3 : decide (i < keep.length) = false := by simpa using hik
                    have d3b : ¬ ((i : Int) < (keep.length : Int)) := by omega
                    have HRd : Fact ((D.crash keep).read (i : Int) = (pad [], 0)) := ⟨by rw [HR.out i hlt3]; unfold wantOf; rw [if_neg (by intro h; have h2 := h.2; rw [List.getD_eq_getElem?_getD, List.getElem?_eq_none (by omega)] at h2; cases h2)]; rw [HGA.out]⟩
                    go_wp2_with fail
                    refine (Read_to S1.out (i : Int) HRd.out (pad_length _)).mono ?_
                    rintro e w7 ⟨g7, c7, rfl, r7, l7, s7, h7, b7⟩
                    have H7 := Fact.mk h7
                    have B7 := Fact.mk (next_new S2.out b7)
                    have hmk := made64
                    have hcp : ∀ (c : Nat) (ty : TypeId), (Builtin.copy_ #[22, 22] ty #[.slice (some ⟨w7.heap.size, 0, none⟩) 64 64, .slice none 0 c]).run Try.prog (w7.alloc (.cells zc 5)) = .ok (.int .i64 ((0 : Nat) : Int)) (w7.alloc (.cells ((pad ([] : List Int)).map (Value.int .u8)).toArray 5)) := fun c ty => copy_to w7 zc rfl _ none c ([] : List Int) ty (by simp) ⟨rfl, by simp, fun h => absurd h (by simp)⟩
                    have cv1 : (convert 22 9 (.slice (some ⟨g7, 0, none⟩) 64 c7)).run Try.prog (w7.alloc (.cells ((pad ([] : List Int)).map (Value.int .u8)).toArray 5)) = .ok (.string (strOfNums (pad ([] : List Int)))) (w7.alloc (.cells ((pad ([] : List Int)).map (Value.int .u8)).toArray 5)) := conv_own r7 _
                    have cv2 : (convert 22 9 (.slice (some ⟨w7.heap.size, 0, none⟩) 64 64)).run Try.prog (w7.alloc (.cells ((pad ([] : List Int)).map (Value.int .u8)).toArray 5)) = .ok (.string (strOfNums (pad ([] : List Int)))) (w7.alloc (.cells ((pad ([] : List Int)).map (Value.int .u8)).toArray 5)) := conv_new w7 (pad ([] : List Int)) (pad_length _)
                    clear r7 l7 s7 h7 b7
                    generalize hpc : ((pad ([] : List Int)).map (Value.int .u8)).toArray = pc at *
                    generalize strOfNums (pad ([] : List Int)) = sp at *
                    clear hpc
                    go_wp2_with fail
                    exact ⟨⟨i + 1, by go_num, by omega, ⟨H7.out.alloc _⟩, ⟨B7.out.alloc B7.out.size _⟩⟩, by simp [intOf]; omega⟩
                · have d2 : decide (i < b.length) = false := by simpa using hib
                  have d2b : ¬ ((i : Int) < (b.length : Int)) := by omega
                  have HRd : Fact ((D.crash keep).read (i : Int) = (pad [], 0)) := ⟨by rw [HR.out i hlt3]; unfold wantOf; rw [if_neg (by intro h; exact hib h.1)]; rw [HGA.out]⟩
                  go_wp2_with fail
                  refine (Read_to S1.out (i : Int) HRd.out (pad_length _)).mono ?_
                  rintro e w7 ⟨g7, c7, rfl, r7, l7, s7, h7, b7⟩
                  have H7 := Fact.mk h7
                  have B7 := Fact.mk (next_new S2.out b7)
                  have hmk := made64
                  have hcp : ∀ (c : Nat) (ty : TypeId), (Builtin.copy_ #[22, 22] ty #[.slice (some ⟨w7.heap.size, 0, none⟩) 64 64, .slice none 0 c]).run Try.prog (w7.alloc (.cells zc 5)) = .ok (.int .i64 ((0 : Nat) : Int)) (w7.alloc (.cells ((pad ([] : List Int)).map (Value.int .u8)).toArray 5)) := fun c ty => copy_to w7 zc rfl _ none c ([] : List Int) ty (by simp) ⟨rfl, by simp, fun h => absurd h (by simp)⟩
                  have cv1 : (convert 22 9 (.slice (some ⟨g7, 0, none⟩) 64 c7)).run Try.prog (w7.alloc (.cells ((pad ([] : List Int)).map (Value.int .u8)).toArray 5)) = .ok (.string (strOfNums (pad ([] : List Int)))) (w7.alloc (.cells ((pad ([] : List Int)).map (Value.int .u8)).toArray 5)) := conv_own r7 _
                  have cv2 : (convert 22 9 (.slice (some ⟨w7.heap.size, 0, none⟩) 64 64)).run Try.prog (w7.alloc (.cells ((pad ([] : List Int)).map (Value.int .u8)).toArray 5)) = .ok (.string (strOfNums (pad ([] : List Int)))) (w7.alloc (.cells ((pad ([] : List Int)).map (Value.int .u8)).toArray 5)) := conv_new w7 (pad ([] : List Int)) (pad_length _)
                  clear r7 l7 s7 h7 b7
                  generalize hpc : ((pad ([] : List Int)).map (Value.int .u8)).toArray = pc at *
                  generalize strOfNums (pad ([] : List Int)) = sp at *
                  clear hpc
                  go_wp2_with fail
                  exact ⟨⟨i + 1, by go_num, by omega, ⟨H7.out.alloc _⟩, ⟨B7.out.alloc B7.out.size _⟩⟩, by simp [intOf]; omega⟩
            · have he : i = 20 := by omega
              subst he
              go_wp2_with fail
              go_ret
              exact ⟨rfl, S2.out⟩
/-- The law's function. -/
theorem DiskKeeps_true (w : World) (A : Option Addr) (c : Nat) (a : List (List Int)) (ha : ReadRows w A a.length a) (_ : a.length ≤ c) (_ : a.length ≤ 9223372036854775807 ∧ ∀ y ∈ a, y.length ≤ 9223372036854775807 ∧ ∀ x ∈ y, (Lit.int .u8 x).wf = true)
    (B : Option Addr) (d : Nat) (b : List (List Int)) (hb : ReadRows w B b.length b) (_ : b.length ≤ d) (_ : b.length ≤ 9223372036854775807 ∧ ∀ y ∈ b, y.length ≤ 9223372036854775807 ∧ ∀ x ∈ y, (Lit.int .u8 x).wf = true)
    (C : Option Addr) (e : Nat) (keep : List Bool) (hk : ReadBool w C keep.length keep) (_ : keep.length ≤ e) (_ : keep.length ≤ 9223372036854775807 ∧ ∀ x ∈ keep, True) :
    Calls Try.prog 4 #[.slice A a.length c, .slice B b.length d, .slice C keep.length e] w fun e w' => e = .returned (.bool true) ∧ Below w.heap.size w w' := by
  by_cases h : a.length ≤ 20 ∧ b.length ≤ 20 ∧ keep.length ≤ 40
  · exact DiskKeeps_in w A B C c d e a b keep h.1 h.2.1 h.2.2 ha hb hk
  · exact DiskKeeps_out w A B C _ _ _ c d e (by omega)
end Go.Proofs.Ytldefibkaoboeaa.Dk
