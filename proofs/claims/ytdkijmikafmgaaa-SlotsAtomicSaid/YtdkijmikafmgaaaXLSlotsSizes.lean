/-
The law SlotsSizes: true.
-/
import Derived.Test.YtdkijmikafmgaaaXLSlotsOwn
namespace Go.Proofs.Ytdkijmikafmgaaa.Dk
open Go.RowKit Go.Maps Go.Proofs.YtdkijmikafmgaaaW.PrintWords Go.Proofs.YtdkijmikafmgaaaW.PrintLast Go.Proofs.YtdkijmikafmgaaaW.PrintMore
set_option linter.unusedVariables false
set_option linter.unusedSimpArgs false

theorem made_u8 (m : Nat) : madeCells #[.int .u8 0] m = ((List.replicate m (0 : Int)).map (Value.int .u8)).toArray := by
  rw [List.map_replicate]
  apply Array.ext
  · simp [madeCells]
  · intro i h1 h2
    simp [madeCells, Nat.mod_one]
theorem rep_cells (m : Nat) : ((List.replicate m (0 : Int)).map (Value.int .u8)).toArray = Array.replicate m (.int .u8 0) := by simp
theorem made_n (n : Nat) (hn : n ≤ 100000) : ∀ W : World, (Instr.makeSlice 37 (.int .i64 (n : Int)) (.int .i64 (n : Int))).run Try.prog W = .ok (.slice (some ⟨W.heap.size, 0, none⟩) n n) (W.alloc (.cells (Array.replicate n (.int .u8 0)) 5)) := by
  intro W
  have := print_make (P := Try.prog) 37 5 .u8 1 Try.underlying37 info_u8 (by omega) n (by omega) W
  rw [← rep_cells, ← made_u8]; exact this
theorem own_new (w : World) (l : List Int) (hl : l.length ≤ 100000) : OwnB (w.alloc (.cells (l.map (Value.int .u8)).toArray 5)) w.heap.size (fun k => w.heap.size ≤ k) (.slice (some ⟨w.heap.size, 0, none⟩) l.length l.length) l := by
  refine ⟨fun k hk => by simp [Value.ownBlock] at hk; omega, ?_⟩
  exact OwnRow.lit w w.heap.size (Kd.reps_scalar (enc := Value.int .u8) l) (Nat.le_refl _) (by first | omega | (simp; omega) | (simp only [maxLen]; omega))
/-- A put that is too long. -/
theorem sdo_long {n m : Nat} {f : Sect} {D : PD} (h : Rests n f D) (hn : n = 100 + 64 * m) {b : List Int} (hb : 4000 < b.length) : D.sdo false [(0, b)] = (10, D, false) := by
  have hmm : (((D.n : Int) - 100) / 64) = (m : Int) := by rw [h.size]; omega
  have hok : putsOk (m : Int) [((0 : Int), b)] = false := by
    unfold putsOk
    rw [decide_eq_false_iff_not]
    rintro ⟨h1, _⟩
    have := (h1 _ (List.mem_singleton.2 rfl)).2.2
    have : b.length ≤ 4000 := this
    omega
  unfold PD.sdo
  rw [hmm, if_pos hok]
set_option maxHeartbeats 4000000 in
set_option maxRecDepth 1000000 in
theorem SlotsSizes_true (w : World) (n : Int) (hn : (Lit.int .i64 n).wf = true) (c : Int) (hc : (Lit.int .u8 c).wf = true) :
    Calls Try.prog 4 #[.int .i64 n, .int .u8 c] w fun e w' => e = .returned (.bool true) ∧ Below w.heap.size w w' := by
  clear hc hn
  go_enter Try.func4, Try.ntmps4
  go_wp2_with fail
  refine (anchor_true w).mono ?_
  rintro e w1 ⟨rfl, b1⟩
  have B1 := Fact.mk b1
  clear b1
  by_cases h1 : n < 1
  · go_wp2_with fail
    go_ret
    exact ⟨rfl, B1.out⟩
  · by_cases h4001 : (4001 : Int) < n
    · go_wp2_with fail
      go_ret
      exact ⟨rfl, B1.out⟩
    · obtain ⟨m, rfl⟩ := Int.eq_ofNat_of_zero_le (show 0 ≤ n by omega)
      have hm : m ≤ 4001 := by omega
      have hm1 : 1 ≤ m := by omega
      have hmk := made_n m (by omega)
      go_wp2_with fail
      refine (made_law w B1.out (m := 1) (by decide) (by decide)).mono ?_
      rintro e w2 ⟨L, q, s, rfl, h2⟩
      have H2 := Fact.mk h2
      clear h2 B1
      go_wp2_with fail
      have hrl : (List.replicate m (0 : Int)).length = m := List.length_replicate
      have ho := own_new w2 (List.replicate m (0 : Int)) (by rw [hrl]; omega)
      rw [hrl, rep_cells] at ho
      have HRS : Fact (∀ k, RS L q k → k < w2.heap.size) := ⟨H2.out.jr.lt⟩
      have hsl := Fact.mk H2.out.slots.lt
      have hw2 := Fact.mk H2.out.jr.below.size
      have I0 : Fact (∃ l, OwnB (w2.alloc (.cells (Array.replicate m (Value.int .u8 0)) 5)) w2.heap.size (fun k => w2.heap.size ≤ k) (.slice (some ⟨w2.heap.size, 0, none⟩) m m) l ∧ l.length = m ∧ Sl w (w2.alloc (.cells (Array.replicate m (Value.int .u8 0)) 5)) L (PD.new (100 + 64 * 1)) q s false) := ⟨_, ho, hrl, H2.out.step ((Below.refl _ _).alloc (Nat.le_refl _) _)⟩
      clear ho hmk hrl
      go_loopw [30] (fun v30 wr => ∃ j : Nat, v30 = .int .i64 (j : Int) ∧ j ≤ m ∧ Fact (∃ l, OwnB wr w2.heap.size (fun k => w2.heap.size ≤ k) (.slice (some ⟨w2.heap.size, 0, none⟩) m m) l ∧ l.length = m ∧ Sl w wr L (PD.new (100 + 64 * 1)) q s false)) (fun v _ => m - (intOf v).toNat)
      case atStart => exact ⟨0, rfl, Nat.zero_le _, I0⟩
      case round =>
        obtain ⟨j, rfl, hj, R⟩ := hrel
        clear I0
        obtain ⟨l, hown, hll, hsl2⟩ := R.out
        have HO := Fact.mk hown
        have HSl := Fact.mk hsl2
        have HLl := Fact.mk hll
        by_cases hlt : j < m
        · have hlt2 : (j : Int) < (m : Int) := by omega
          obtain ⟨g', x, eg, -, -, k0, f0⟩ := own_at hown hll hlt
          injection eg with eg
          injection eg with eg
          subst eg
          clear R hown hsl2 hll
          go_wp2_with fail
          refine ⟨⟨j + 1, by go_num, by omega, ⟨_, own_put HO.out j _, by rw [List.length_set]; exact HLl.out, HSl.out.only (Only.setCell (S := fun k => k = w2.heap.size) wr rfl _) (fun k hk => by rw [hk]; exact hw2.out) (fun k hk e => by have := HRS.out k hk; omega) (fun e => by have := hsl.out; omega)⟩⟩, by simp [intOf]; omega⟩
        · have he : j = m := by omega
          subst he
          have hlt2 : ¬ ((j : Int) < (j : Int)) := by omega
          have hsee : Fact (Sees (RS L q) wr ⟨some ⟨w2.heap.size, 0, none⟩, l.length, j⟩ l) := ⟨by
            have := Sees.of_own (S := RS L q) hown (fun k hk h => by have := HRS.out k h; omega)
            rwa [← hll] at this ⊢⟩
          have hch := Fact.mk (one_put wr 39 (RS L q) HSl.out.jr.lt 0 _ l hsee.out)
          have H4 := Fact.mk (HSl.out.step ((Below.refl _ _).alloc (Nat.le_refl _) (.cells #[.int .i64 0, .slice (some ⟨w2.heap.size, 0, none⟩) l.length j] 39)))
          have HX4 := Fact.mk (Kd.R_alloc hown (.cells #[.int .i64 0, .slice (some ⟨w2.heap.size, 0, none⟩) l.length j] 39))
          rw [hll] at hch H4 HX4
          clear R hown hsl2 HO HSl hsee
          by_cases hbig : 4000 < j
          · have HD := Fact.mk (sdo_long (new_rests (m := 1) (by decide)) rfl (b := l) (by omega))
            have hbig2 : (4000 : Int) < (j : Int) := by omega
            clear hll
            go_wp2_with fail
            refine (SDo_law H4.out (m := 1) (by rfl) _ 1 (l := [(0, l)]) hch.out (by simp) HD.out).mono ?_
            rintro e w5 ⟨rfl, h5, -⟩
            have H5 := Fact.mk h5.jr.below
            clear h5
            go_wp2_with fail
            go_ret
            exact ⟨rfl, H5.out⟩
          · have hbig2 : ¬ (4000 : Int) < (j : Int) := by omega
            obtain ⟨D1, f1, hd1, hr1, hu1, hs1, -⟩ := sdo_one (new_rests (m := 1) (by decide)) (PD.Up.new _) rfl (by decide) (by decide) (i := 0) (by decide) (ii := 0) rfl (b := l) (by omega)
            have HD1 := Fact.mk hd1
            have HR1 := Fact.mk hr1
            have HU1 := Fact.mk hu1.down
            have HS1 := Fact.mk hs1
            clear hd1 hr1 hu1 hs1
            replace hll := Fact.mk hll
            go_wp2_with fail
            refine (SDo_law H4.out (m := 1) (by rfl) _ 1 (l := [(0, l)]) hch.out (by simp) HD1.out).mono ?_
            rintro e w5 ⟨rfl, h5, o5⟩
            have H5 := Fact.mk h5
            have HX5 := Fact.mk (own_only HX4.out o5 (fun k hk h => by have := HRS.out k h; omega))
            clear h5 o5 H4 HX4 hch
            go_wp2_with fail
            refine (Get_law H5.out HR1.out HU1.out rfl (ii := 0) rfl HS1.out (by decide)).mono ?_
            rintro e w6 ⟨hg, h6, b6⟩
            rcases hg with ⟨hg | hg, -⟩
            · have := hg.1
              rw [this] at hll
              have := hll.out
              simp at this
              omega
            · obtain ⟨-, g2, cg2, out2, rfl, hown2, htk2, hle2⟩ := hg
              have hcz : (convert 37 9 (.slice (some ⟨g2, 0, none⟩) l.length l.length)).run Try.prog w6 = .ok (.string (strOfNums l)) w6 := by
                have h1 := C_take (own_reads_ hown2).2.2 hle2
                rw [htk2] at h1
                exact Kd.C_string Try.underlying37 Try.underlying5 Try.underlying9 h1
              have hcb : (convert 37 9 (.slice (some ⟨w2.heap.size, 0, none⟩) j j)).run Try.prog w6 = .ok (.string (strOfNums l)) w6 := by
                have h1 := Kd.C_below (own_reads_ HX5.out).2.2 b6
                rw [hll.out] at h1
                exact Kd.C_string Try.underlying37 Try.underlying5 Try.underlying9 h1
              have H6 := Fact.mk h6.jr.below
              clear hown2 htk2 hle2 h6 b6 H5 HX5
              go_wp2_with fail
              go_ret
              exact ⟨rfl, H6.out⟩
end Go.Proofs.Ytdkijmikafmgaaa.Dk
