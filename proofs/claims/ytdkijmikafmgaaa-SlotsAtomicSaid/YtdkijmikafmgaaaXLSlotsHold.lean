/-
The law SlotsHold: true.
-/
import Derived.Test.YtdkijmikafmgaaaXLSlotsSizes
import Derived.Test.YtdkijmikafmgaaaXF
namespace Go.Proofs.Ytdkijmikafmgaaa.Dk
open Go.RowKit Go.Maps Go.Proofs.YtdkijmikafmgaaaW.PrintWords Go.Proofs.YtdkijmikafmgaaaW.PrintLast Go.Proofs.YtdkijmikafmgaaaW.PrintMore
set_option linter.unusedVariables false
set_option linter.unusedSimpArgs false

theorem zero_string (w : World) : (zeroValue 9).run Try.prog w = .ok (.string ByteArray.empty) w := by kernel_rfl
/-- A slot's record behind puts. -/
def recAt (i : Nat) (r : List Int) (l : List Ch) : List Int := l.foldl (fun r p => if p.1 = (i : Int) then p.2 else r) r
theorem recAt_snoc {i : Nat} {r : List Int} {l : List Ch} {j : Nat} {x : Ch} (hx : l[j]? = some x) : recAt i r (l.take (j + 1)) = if x.1 = (i : Int) then x.2 else recAt i r (l.take j) := by
  unfold recAt; rw [List.take_add_one, hx, List.foldl_append]; rfl
theorem recAt_cases (i : Nat) (l : List Ch) (r : List Int) : (∃ p ∈ l, p.1 = (i : Int) ∧ p.2 = recAt i r l) ∨ (∀ p ∈ l, p.1 ≠ (i : Int)) ∧ recAt i r l = r := by
  induction l generalizing r with
  | nil => exact .inr ⟨fun p h => by simp at h, rfl⟩
  | cons p t ih =>
    have e : recAt i r (p :: t) = recAt i (if p.1 = (i : Int) then p.2 else r) t := rfl
    rw [e]
    rcases ih (if p.1 = (i : Int) then p.2 else r) with ⟨q, hq, a, b⟩ | ⟨h1, h2⟩
    · exact .inl ⟨q, List.mem_cons_of_mem _ hq, a, b⟩
    · by_cases h : p.1 = (i : Int)
      · exact .inl ⟨p, List.mem_cons_self, h, by rw [h2, if_pos h]⟩
      · refine .inr ⟨fun q hq => ?_, by rw [h2, if_neg h]⟩
        rcases List.mem_cons.1 hq with rfl | hq
        · exact h
        · exact h1 q hq
/-- Puts on a disk at rest whose power is there: refused, or all done. -/
theorem sdo_rests {n m : Nat} {f : Sect} {D : PD} (h : Rests n f D) (hu : D.Up) (hn : n = 100 + 64 * m) (h1 : 1 ≤ m) (h2 : m ≤ 60) (l : List Ch) : ∃ e D1 f1, D.sdo false l = (e, D1, false) ∧ Rests n f1 D1 ∧ D1.Up ∧ ((e = 10 ∨ e = 23) ∧ f1 = f ∧ D1 = D ∨ e = 0 ∧ putsOk (m : Int) l = true ∧ ∀ i r, SlotIs f i r → SlotIs f1 i (recAt i r l)) := by
  have hmm : (((D.n : Int) - 100) / 64) = (m : Int) := by rw [h.size]; omega
  have hmm2 : (((n : Int) - 100) / 64) = (m : Int) := by omega
  by_cases hok : putsOk (m : Int) l = false
  · exact ⟨10, D, f, by unfold PD.sdo; rw [hmm, if_pos hok], h, hu, .inl ⟨.inl rfl, rfl, rfl⟩⟩
  · have hok2 : putsOk (m : Int) l = true := by simpa using hok
    by_cases hl : l = []
    · exact ⟨10, D, f, by unfold PD.sdo; rw [hmm, if_neg hok, if_pos hl], h, hu, .inl ⟨.inl rfl, rfl, rfl⟩⟩
    · by_cases hbig : 96 < (allOf l).length
      · exact ⟨23, D, f, by unfold PD.sdo; rw [hmm, if_neg hok, if_neg hl, if_pos hbig], h, hu, .inl ⟨.inr rfl, rfl, rfl⟩⟩
      · have hj : Job n (allOf l) := all_job (by omega) (by omega) (by rw [hmm2]; exact hok2) hl (by omega)
        have he := doJob_ends hj h
        obtain ⟨a1, u1⟩ := he.up hu
        have hd : D.do_ false (allOf l) = (0, (D.doJob (allOf l)).2, false) := by
          unfold PD.do_
          rw [if_neg (by decide), if_neg (by rw [h.size, hj.right]; decide), a1]; rfl
        refine ⟨0, _, _, ?_, he.done a1, u1, .inr ⟨rfl, hok2, fun i r hs => ?_⟩⟩
        · unfold PD.sdo
          rw [hmm, if_neg hok, if_neg hl, if_neg hbig, hd]
        · refine slots_done hj (by rw [hmm2]; exact hok2) ?_
          rcases recAt_cases i l r with ⟨p, hp, a, b⟩ | ⟨a, b⟩
          · exact .inl ⟨p, hp, a, b⟩
          · exact .inr ⟨a, by rw [b]; exact hs⟩
theorem jobs_cell {w : World} {A : Option Addr} {l : List (List Ch)} (h : Kd.C (Kd.slice 39 inK) w A l.length l) {k : Nat} (hk : k < l.length) : ∃ ad Aj cj, A = some ad ∧ w.cell? (ad.add k) = some (.slice Aj (l.getD k []).length cj) ∧ Kd.C inK w Aj (l.getD k []).length (l.getD k []) := by
  obtain ⟨ad, e, hc⟩ := h.2.2 (by omega)
  obtain ⟨c, h1, ⟨Aj, cj, h2, h5, h6⟩, h3⟩ := hc k l[k] (List.getElem?_eq_getElem hk)
  have h4 : l.getD k [] = l[k] := by rw [List.getD_eq_getElem?_getD, List.getElem?_eq_getElem hk]; rfl
  rw [h4]
  refine ⟨ad, Aj, cj, e, ?_, h6⟩
  have := h3 0 (.slice Aj l[k].length cj) (by rw [h2]; rfl)
  simpa [Kd.slice] using this
/-- 'small' of one step, in the midst of a law. -/
theorem small_step {w w1 : World} {L : DL} {D : PD} {q : Nat} {A : Option Addr} {a : List Ch} (hA : Kd.C inK w A a.length a) (h : Jr w w1 L D q false) (ca : Nat) :
    Calls Try.prog 10 #[.slice (some ⟨w1.heap.size, 0, none⟩) 1 1, .int .i64 1] (w1.alloc (.cells #[.int .i64 0, .int .i64 0, .slice A a.length ca, .slice none 0 0, .bool false] 33)) fun e w' => ∃ b, e = .returned (.bool b) ∧ (b = true → a.length ≤ 20) ∧ Below w1.heap.size w1 w' := by
  refine (small_any (w := w1.alloc (.cells #[.int .i64 0, .int .i64 0, .slice A a.length ca, .slice none 0 0, .bool false] 33)) (S := fun _ => False) w1.heap.size [⟨0, 0, A, a, ca, none, 0, 0, false⟩] 1 1 (heap_alloc_new w1 _) (by simp) (by simp) (by omega) (by
    intro o ho
    rw [List.mem_singleton.1 ho]
    exact (Chs.of_read hA (fun _ h => h.elim)).step (Only.of_below (h.below.alloc h.below.size _) _))).mono ?_
  rintro e w2 ⟨b, rfl, h, b2⟩
  exact ⟨b, rfl, fun hb => h hb _ List.mem_cons_self, next_new ((Below.refl _ _).alloc (Nat.le_refl _) _) b2⟩
/-- The map tells the records. -/
def Tells (mf : Nat → Option Value) (recs : Nat → List Int) : Prop := ∀ i, (mf i).getD (.string ByteArray.empty) = .string (strOfNums (recs i))
theorem Tells.start : Tells (fun _ => none) (fun _ => []) := fun i => by
  show Value.string ByteArray.empty = _
  simp [strOfNums, ByteArray.empty, ByteArray.emptyWithCapacity]
  rfl
theorem Tells.step {mf : Nat → Option Value} {recs : Nat → List Int} {l : List Ch} {j : Nat} {x : Ch} {k : Nat} (h : Tells mf (fun i => recAt i (recs i) (l.take j))) (hx : l[j]? = some x) (hk : x.1 = (k : Int)) : Tells (fun i => if i = k then some (.string (strOfNums x.2)) else mf i) (fun i => recAt i (recs i) (l.take (j + 1))) := fun i => by
  show (if i = k then some (Value.string (strOfNums x.2)) else mf i).getD _ = .string (strOfNums (recAt i (recs i) (l.take (j + 1))))
  rw [recAt_snoc hx]
  by_cases e : i = k
  · rw [if_pos e, if_pos (by rw [hk, e])]; rfl
  · rw [if_neg e, if_neg (by rw [hk]; omega)]; exact h i
theorem str_nil : ((strOfNums []).toList == []) = true := by rw [Lib.strOfNums_toList]; rfl
theorem str_cons {l : List Int} (h : l ≠ []) : ((strOfNums l).toList == []) = false := by
  rw [Lib.strOfNums_toList]
  cases l with
  | nil => exact absurd rfl h
  | cons a r => rfl
set_option maxHeartbeats 8000000 in
set_option maxRecDepth 1000000 in
theorem SlotsHold_true (w : World) (A : Option Addr) (ca : Nat) (l : List (List Ch)) (hA : Kd.C (Kd.slice 39 inK) w A l.length l) (hca : l.length ≤ ca) {pa : Prop} (_ : pa) :
    Calls Try.prog 3 #[.slice A l.length ca] w fun e w' => e = .returned (.bool true) ∧ Below w.heap.size w w' := by
  have HA := Fact.mk hA
  have hmm := @run_makeMap Try.prog
  clear hA
  go_enter Try.func3, Try.ntmps3
  go_wp2_with fail
  refine (anchor_true w).mono ?_
  rintro e w2 ⟨rfl, b1⟩
  have B2 := Fact.mk b1
  clear b1
  by_cases hl12 : (12 : Int) < (l.length : Int)
  · go_wp2_with fail
    go_ret
    exact ⟨rfl, B2.out⟩
  · go_wp2_with fail
    refine (made_law w B2.out (m := 3) (by decide) (by decide)).mono ?_
    rintro e w3 ⟨L, q, s, rfl, h3⟩
    have HRS : Fact (∀ k, RS L q k → k ≠ w3.heap.size) := ⟨fun k hk e => by have := h3.jr.lt k hk; omega⟩
    have HSS : Fact (s ≠ w3.heap.size) := ⟨fun e => by have := h3.slots.lt; omega⟩
    have HGm : Fact (w.heap.size ≤ w3.heap.size) := ⟨h3.jr.below.size⟩
    have H3 := Fact.mk h3
    clear h3 B2
    have I0 : Fact (∃ D f recs mf, Rests 292 f D ∧ D.Up ∧ Sl w (w3.alloc (.map #[] 0)) L D q s false ∧ IntMap Try.prog (w3.alloc (.map #[] 0)) w3.heap.size mf 3 ∧ Tells mf recs ∧ ∀ i, SlotIs f i (recs i)) := ⟨PD.new 292, _, _, _, new_rests (m := 3) (by decide), PD.Up.new 292, H3.out.step ((Below.refl _ _).alloc (Nat.le_refl _) _), IntMap.made _ _ _, Tells.start, fun i => SlotIs.none i⟩
    go_wp2_with fail
    clear hmm
    generalize w3.heap.size = gm at *
    go_loopw [27] (fun v27 wr => ∃ j : Nat, v27 = .int .i64 (j : Int) ∧ j ≤ l.length ∧ Fact (∃ D f recs mf, Rests 292 f D ∧ D.Up ∧ Sl w wr L D q s false ∧ IntMap Try.prog wr gm mf 3 ∧ Tells mf recs ∧ ∀ i, SlotIs f i (recs i))) (fun v _ => l.length - (intOf v).toNat)
    case atStart => exact ⟨0, rfl, Nat.zero_le _, I0⟩
    case round =>
      obtain ⟨j, rfl, hj, R⟩ := hrel
      clear I0 H3
      obtain ⟨D, f, recs, mf, hr, hu, hsl, him, hte, hsi⟩ := R.out
      have HR := Fact.mk hr
      have HU := Fact.mk hu
      have HS := Fact.mk hsl
      have HM := Fact.mk him
      have HT := Fact.mk hte
      have HI := Fact.mk hsi
      clear R hr hu hsl him hte hsi
      by_cases hlt : j < l.length
      · have hlt2 : (j : Int) < (l.length : Int) := by omega
        obtain ⟨ad, Aj, cj, hA2, cA, hcA⟩ := jobs_cell HA.out hlt
        subst hA2
        replace cA := pw_cell_below HS.out.jr.below cA
        have HC := Fact.mk hcA
        clear hcA
        generalize l.getD j [] = a at *
        go_wp2_with fail
        refine (small_step HC.out HS.out.jr cj).mono ?_
        rintro e w5 ⟨bs, rfl, ha20, b5⟩
        have H5 := Fact.mk (HS.out.step b5)
        have M5 := Fact.mk (HM.out.move (b5.block _ HM.out.lt))
        clear b5 HS HM cA
        cases bs with
        | false =>
          go_wp2_with fail
          go_ret
          exact ⟨rfl, H5.out.jr.below⟩
        | true =>
          have HA20 := Fact.mk (ha20 rfl)
          clear ha20
          go_wp2_with fail
          have hcC : Chs (RS L q) w5 Aj a := (Chs.of_read HC.out H5.out.jr.new).step (Only.of_below H5.out.jr.below _)
          obtain ⟨e1, D1, f1, hd1, hr1, hu1, hcase⟩ := sdo_rests HR.out HU.out (m := 3) rfl (by decide) (by decide) a
          refine (SDo_law H5.out (m := 3) (by rw [HR.out.size]; rfl) Aj cj hcC (by have := HA20.out; omega) hd1).mono ?_
          rintro e w6 ⟨rfl, h6, o6⟩
          have H6 := Fact.mk h6
          have M6 := Fact.mk (M5.out.move (o6.block _ M5.out.lt (fun hk => HRS.out _ hk rfl)))
          have R6 := Fact.mk hr1
          have U6 := Fact.mk hu1
          clear h6 o6 hcC hd1 hr1 hu1 H5 M5
          rcases hcase with ⟨he1, rfl, rfl⟩ | ⟨rfl, hok, hsl1⟩
          · obtain ⟨recs1, hrecs1⟩ : ∃ r, r = recs := ⟨_, rfl⟩
            subst hrecs1
            rcases he1 with rfl | rfl
            all_goals
              go_wp2_with fail
              have I2 : Fact (Sl w w6 L D1 q s false ∧ IntMap Try.prog w6 gm mf 3) := ⟨H6.out, M6.out⟩
              clear H6 M6
              go_loopw [53] (fun v53 wr => ∃ i : Nat, v53 = .int .i64 (i : Int) ∧ i ≤ 3 ∧ Fact (Sl w wr L D1 q s false ∧ IntMap Try.prog wr gm mf 3)) (fun v _ => 3 - (intOf v).toNat)
              case atStart => exact ⟨0, rfl, Nat.zero_le _, I2⟩
              case round =>
                obtain ⟨i, rfl, hi, R8⟩ := hrel
                clear I2
                have S8 := Fact.mk R8.out.1
                have M8 := Fact.mk R8.out.2
                clear R8
                by_cases hlt5 : i < 3
                · have hlt6 : (i : Int) < 3 := by omega
                  go_wp2_with fail
                  refine (Get_law S8.out R6.out U6.out.down (m := 3) rfl (i := i) rfl (HI.out i) hlt5).mono ?_
                  rintro e w9 ⟨hg, h9, b9⟩
                  have S9 := Fact.mk h9
                  have M9 := Fact.mk (M8.out.move (b9.block _ M8.out.lt))
                  have hlk : (Instr.lookup 28 (.map (some gm)) (.int .i64 (i : Int)) false).run Try.prog w9 = .ok (.string (strOfNums (recs1 i))) w9 := by
                    rw [M9.out.look int_t Try.underlying28 (zero_string _) i (by omega), HT.out i]
                  clear h9 S8 M8
                  rcases hg with ⟨⟨hnil, rfl⟩ | ⟨hcons, g2, cg2, out2, rfl, hown2, htk2, hle2⟩, -⟩
                  · have hq := str_nil
                    have hcz : (convert 37 9 (.slice none 0 0)).run Try.prog w9 = .ok (.string (strOfNums (recs1 i))) w9 := by
                      rw [hnil]
                      exact Kd.C_string (xs := []) Try.underlying37 Try.underlying5 Try.underlying9 (Kd.C_nil _ _)
                    rw [← hnil] at hq
                    generalize strOfNums (recs1 i) = s0 at *
                    clear b9 hnil
                    go_wp2_with fail
                    exact ⟨⟨i + 1, by go_num, by omega, ⟨S9.out, M9.out⟩⟩, by simp [intOf]; omega⟩
                  · have hq := str_cons hcons
                    have hcz : (convert 37 9 (.slice (some ⟨g2, 0, none⟩) (recs1 i).length (recs1 i).length)).run Try.prog w9 = .ok (.string (strOfNums (recs1 i))) w9 := by
                      have h1 := C_take (own_reads_ hown2).2.2 hle2
                      rw [htk2] at h1
                      exact Kd.C_string Try.underlying37 Try.underlying5 Try.underlying9 h1
                    clear hown2 htk2 hle2 b9 hcons
                    generalize strOfNums (recs1 i) = s0 at *
                    generalize (recs1 i).length = rl at *
                    go_wp2_with fail
                    exact ⟨⟨i + 1, by go_num, by omega, ⟨S9.out, M9.out⟩⟩, by simp [intOf]; omega⟩
                · have he : i = 3 := by omega
                  subst he
                  have hlt6 : ¬ (((3 : Nat) : Int) < 3) := by omega
                  go_wp2_with fail
                  exact ⟨⟨j + 1, by go_num, by omega, ⟨D1, f1, recs1, mf, R6.out, U6.out, S8.out, M8.out, HT.out, HI.out⟩⟩, by simp [intOf]; omega⟩
          · have HS1 := Fact.mk hsl1
            have HP := Fact.mk (putsOk_props hok).1
            have I1 : Fact (∃ mf, IntMap Try.prog w6 gm mf 3 ∧ Tells mf (fun i => recAt i (recs i) (a.take 0)) ∧ Sl w w6 L D1 q s false) := ⟨mf, M6.out, HT.out, H6.out⟩
            clear hok hsl1 H6 M6 HT HR HU
            have HCh : Fact (Chs (fun k => w.heap.size ≤ k) w Aj a) := ⟨Chs.of_read HC.out (fun k hk => hk)⟩
            go_wp2_with fail
            go_loopw [42] (fun v42 wr => ∃ i : Nat, v42 = .int .i64 (i : Int) ∧ i ≤ a.length ∧ Fact (∃ mf, IntMap Try.prog wr gm mf 3 ∧ Tells mf (fun t => recAt t (recs t) (a.take i)) ∧ Sl w wr L D1 q s false)) (fun v _ => a.length - (intOf v).toNat)
            case atStart => exact ⟨0, rfl, Nat.zero_le _, I1⟩
            case round =>
              obtain ⟨i, rfl, hi, R7⟩ := hrel
              clear I1
              obtain ⟨mf7, hm7, ht7, hs7⟩ := R7.out
              have M7 := Fact.mk hm7
              have T7 := Fact.mk ht7
              have S7 := Fact.mk hs7
              clear R7 hm7 ht7 hs7
              by_cases hlt3 : i < a.length
              · have hlt4 : (i : Int) < (a.length : Int) := by omega
                have hx : a[i]? = some a[i] := List.getElem?_eq_getElem hlt3
                have HX := Fact.mk hx
                obtain ⟨p1, p2, p3⟩ := HP.out a[i] (List.getElem_mem hlt3)
                obtain ⟨ad2, As, cs, hA3, hse, hc⟩ := HCh.out.at_ hx
                subst hA3
                obtain ⟨c0, c1⟩ := hc _ (Only.of_below S7.out.jr.below _)
                have hsn := Fact.mk (S7.out.jr.below.size)
                clear hc hx
                generalize a[i] = x at *
                obtain ⟨xs, xb⟩ := x
                dsimp only at p1 p2 p3 c0 c1 hse
                obtain ⟨k, rfl⟩ := Int.eq_ofNat_of_zero_le p1
                have hk3 : k < 3 := by omega
                have hal := HA20.out
                have S8 := Fact.mk (S7.out.step ((Below.refl _ _).alloc (Nat.le_refl _) (.cells #[.int .i64 (k : Int), .slice As xb.length cs] 39)))
                have hcv : (convert 37 9 (.slice As xb.length cs)).run Try.prog (wr.alloc (.cells #[.int .i64 (k : Int), .slice As xb.length cs] 39)) = .ok (.string (strOfNums xb)) (wr.alloc (.cells #[.int .i64 (k : Int), .slice As xb.length cs] 39)) := Kd.C_string Try.underlying37 Try.underlying5 Try.underlying9 (hse.reads _ (Only.of_below S8.out.jr.below _))
                have HMo : Fact (∀ o, IntMap Try.prog (wr.alloc o) gm mf7 3) := ⟨fun o => M7.out.move (Below.heap_alloc _ _ _ M7.out.lt)⟩
                clear hse S7 M7 p1 p2 p3
                go_wp2_with ((with_reducible refine gate_put2 (.tmp 46) (.tmp 48) (.tmp 51) 28 rfl ?_); refine wpList_put_map rfl (.tmp 46) (.tmp 48) (.tmp 51) 28 9 rfl int_t Try.underlying28 gm 3 _ (HMo.out _) (by omega) rfl k rfl hk3 (.string (strOfNums xb)) rfl ?_; intro w8 hm8 ht8; have M8 := Fact.mk hm8; have T8 := Fact.mk ht8; clear hm8 ht8)
                refine ⟨⟨i + 1, by go_num, by omega, ⟨_, M8.out, T7.out.step HX.out rfl, S8.out.only (Only.mapTurned (S := fun k => k = gm) T8.out rfl) (fun k hk => by rw [hk]; exact HGm.out) (fun k hk e => HRS.out k hk e) HSS.out⟩⟩, by simp [intOf]; omega⟩
              · have he : i = a.length := by omega
                subst he
                have hlt4 : ¬ ((a.length : Int) < (a.length : Int)) := by omega
                obtain ⟨recs1, hrecs1⟩ : ∃ r, r = fun t => recAt t (recs t) a := ⟨_, rfl⟩
                obtain ⟨w6, hw6⟩ : ∃ r, r = wr := ⟨_, rfl⟩
                subst hw6
                have H6 := S7
                have M6 := M7
                have HT : Fact (Tells mf7 recs1) := ⟨by have := T7.out; rw [List.take_length] at this; rw [hrecs1]; exact this⟩
                have HI1 : Fact (∀ i, SlotIs f1 i (recs1 i)) := ⟨fun i => by rw [hrecs1]; exact HS1.out i _ (HI.out i)⟩
                clear S7 M7 T7 HS1 HI hrecs1
                have HI := HI1
                clear HI1
                go_wp2_with fail
                have I2 : Fact (Sl w w6 L D1 q s false ∧ IntMap Try.prog w6 gm mf7 3) := ⟨H6.out, M6.out⟩
                clear H6 M6
                go_loopw [53] (fun v53 wr => ∃ i : Nat, v53 = .int .i64 (i : Int) ∧ i ≤ 3 ∧ Fact (Sl w wr L D1 q s false ∧ IntMap Try.prog wr gm mf7 3)) (fun v _ => 3 - (intOf v).toNat)
                case atStart => exact ⟨0, rfl, Nat.zero_le _, I2⟩
                case round =>
                  obtain ⟨i, rfl, hi, R8⟩ := hrel
                  clear I2
                  have S8 := Fact.mk R8.out.1
                  have M8 := Fact.mk R8.out.2
                  clear R8
                  by_cases hlt5 : i < 3
                  · have hlt6 : (i : Int) < 3 := by omega
                    go_wp2_with fail
                    refine (Get_law S8.out R6.out U6.out.down (m := 3) rfl (i := i) rfl (HI.out i) hlt5).mono ?_
                    rintro e w9 ⟨hg, h9, b9⟩
                    have S9 := Fact.mk h9
                    have M9 := Fact.mk (M8.out.move (b9.block _ M8.out.lt))
                    have hlk : (Instr.lookup 28 (.map (some gm)) (.int .i64 (i : Int)) false).run Try.prog w9 = .ok (.string (strOfNums (recs1 i))) w9 := by
                      rw [M9.out.look int_t Try.underlying28 (zero_string _) i (by omega), HT.out i]
                    clear h9 S8 M8
                    rcases hg with ⟨⟨hnil, rfl⟩ | ⟨hcons, g2, cg2, out2, rfl, hown2, htk2, hle2⟩, -⟩
                    · have hq := str_nil
                      have hcz : (convert 37 9 (.slice none 0 0)).run Try.prog w9 = .ok (.string (strOfNums (recs1 i))) w9 := by
                        rw [hnil]
                        exact Kd.C_string (xs := []) Try.underlying37 Try.underlying5 Try.underlying9 (Kd.C_nil _ _)
                      rw [← hnil] at hq
                      generalize strOfNums (recs1 i) = s0 at *
                      clear b9 hnil
                      go_wp2_with fail
                      exact ⟨⟨i + 1, by go_num, by omega, ⟨S9.out, M9.out⟩⟩, by simp [intOf]; omega⟩
                    · have hq := str_cons hcons
                      have hcz : (convert 37 9 (.slice (some ⟨g2, 0, none⟩) (recs1 i).length (recs1 i).length)).run Try.prog w9 = .ok (.string (strOfNums (recs1 i))) w9 := by
                        have h1 := C_take (own_reads_ hown2).2.2 hle2
                        rw [htk2] at h1
                        exact Kd.C_string Try.underlying37 Try.underlying5 Try.underlying9 h1
                      clear hown2 htk2 hle2 b9 hcons
                      generalize strOfNums (recs1 i) = s0 at *
                      generalize (recs1 i).length = rl at *
                      go_wp2_with fail
                      exact ⟨⟨i + 1, by go_num, by omega, ⟨S9.out, M9.out⟩⟩, by simp [intOf]; omega⟩
                  · have he : i = 3 := by omega
                    subst he
                    have hlt6 : ¬ (((3 : Nat) : Int) < 3) := by omega
                    go_wp2_with fail
                    exact ⟨⟨j + 1, by go_num, by omega, ⟨D1, f1, recs1, mf7, R6.out, U6.out, S8.out, M8.out, HT.out, HI.out⟩⟩, by simp [intOf]; omega⟩
      · have he : j = l.length := by omega
        subst he
        have hlt2 : ¬ ((l.length : Int) < (l.length : Int)) := by omega
        go_wp2_with fail
        go_ret
        exact ⟨rfl, HS.out.jr.below⟩
end Go.Proofs.Ytdkijmikafmgaaa.Dk
