/-
The law SlotsOwn: true.
-/
import Derived.Test.YtdkijmikafmgaaaXE
namespace Go.Proofs.Ytdkijmikafmgaaa.Dk
open Go.RowKit Go.Maps Go.Proofs.YtdkijmikafmgaaaW.PrintWords Go.Proofs.YtdkijmikafmgaaaW.PrintLast Go.Proofs.YtdkijmikafmgaaaW.PrintMore
set_option linter.unusedVariables false
set_option linter.unusedSimpArgs false

theorem Sl.only {w0 w w' : World} {L : DL} {D : PD} {q s : Nat} {br : Bool} {S : Nat → Prop} (h : Sl w0 w L D q s br) (ho : Only S w w') (h0 : ∀ k, S k → w0.heap.size ≤ k) (h1 : ∀ k, RS L q k → ¬ S k) (h2 : ¬ S s) : Sl w0 w' L D q s br :=
  ⟨⟨h.jr.disk.only ho (fun k hk => h1 k (.inl hk)), h.jr.redo.only ho (h1 q (.inr rfl)), h.jr.new, next_below h.jr.below ho h0⟩, h.slots.only ho h2, h.snew⟩
set_option maxHeartbeats 4000000 in
set_option maxRecDepth 1000000 in
theorem SlotsOwn_true (w : World) (A : Option Addr) (c : Nat) (b : List Int) (hb : Kd.C (Kd.int .u8) w A b.length b) (hc : b.length ≤ c) {pb : Prop} (_ : pb) :
    Calls Try.prog 5 #[.slice A b.length c] w fun e w' => e = .returned (.bool true) ∧ Below w.heap.size w w' := by
  have HB := Fact.mk hb
  clear hb
  go_enter Try.func5, Try.ntmps5
  go_wp2_with fail
  refine (anchor_true w).mono ?_
  rintro e w1 ⟨rfl, b1⟩
  have B1 := Fact.mk b1
  clear b1
  by_cases h1 : (b.length : Int) < 1
  · go_wp2_with fail
    go_ret
    exact ⟨rfl, B1.out⟩
  · by_cases h500 : (500 : Int) < (b.length : Int)
    · go_wp2_with fail
      go_ret
      exact ⟨rfl, B1.out⟩
    · have hbl : 0 < b.length := by omega
      go_wp2_with fail
      refine (made_law w B1.out (m := 1) (by decide) (by decide)).mono ?_
      rintro e w2 ⟨L, q, s, rfl, h2⟩
      have H2 := Fact.mk h2
      clear h2 B1
      go_wp2_with ((with_reducible refine gate_builtin (b := .append) (xs := #[.tmp 26, .tmp 27]) rfl ?_); at_builtin; refine Fact.out (p := _) ?_)
      refine Fact.mk ?_
      refine Kd.R_append_rows (Kd.int .u8) (w0 := w2) w2.heap.size rfl (.tmp 26) (.tmp 27) 37 5 (.int .u8 0) 1 rfl Try.underlying37 info_u8 rfl (by decide) (by omega) (.slice (some ⟨w2.heap.size, 0, none⟩) 0 0) [] b A b.length c (fun k => w2.heap.size ≤ k) (fun _ => False) rfl rfl ?aO ?aR (fun _ _ h => h) (fun _ h => h.elim) ?aF ?aB ?aS ?aL ?_
      case aO => exact ⟨fun k hk => by simp [Value.ownBlock] at hk; omega, OwnRow.lit w2 w2.heap.size (Reps.none _ _) (Nat.le_refl _) (by simp)⟩
      case aR => exact Kd.C_below HB.out (H2.out.jr.below.alloc H2.out.jr.below.size _)
      case aF => intro k hk; simp at hk; omega
      case aB => exact (Below.refl _ _).alloc (Nat.le_refl _) _
      case aS => simp
      case aL => simp; omega
      intro v1 w3 ho hb3 hg hat
      rw [List.nil_append] at ho
      obtain ⟨A5, cx, rfl, hcx, -⟩ := Kd.R_reads ho
      obtain ⟨gx, c5', e5, -, -⟩ := (Kd.own_of_R ho).form (by omega)
      injection e5 with e5 e6 e7
      clear e6
      subst e5 e7
      have hgx : w2.heap.size ≤ gx := ho.1 gx (by simp [Value.ownBlock])
      have H3 : Fact (Sl w w3 L (PD.new (100 + 64 * 1)) q s false) := ⟨H2.out.step hb3⟩
      have HX3 := Fact.mk ho
      have HRS : Fact (∀ k, RS L q k → k < w2.heap.size) := ⟨H2.out.jr.lt⟩
      have hsl : s < w2.heap.size := H2.out.slots.lt
      have hw2 : w.heap.size ≤ w2.heap.size := H2.out.jr.below.size
      replace hgx := Fact.mk hgx
      replace hsl := Fact.mk hsl
      replace hw2 := Fact.mk hw2
      have hee := Fact.mk (Sees.of_own (S := RS L q) ho (fun k hk h => by have := HRS.out k h; omega))
      clear ho hb3 hg hat H2
      obtain ⟨D1, f1, hd1, hr1, hu1, hs1, -⟩ := sdo_one (new_rests (m := 1) (by decide)) (PD.Up.new _) rfl (by decide) (by decide) (i := 0) (by decide) (ii := 0) rfl (b := b) (by omega)
      have HD1 := Fact.mk hd1
      have HR1 := Fact.mk hr1
      have HU1 := Fact.mk hu1.down
      have HS1 := Fact.mk hs1
      clear hd1 hr1 hu1 hs1
      go_wp2_with fail
      have hch := one_put w3 39 (RS L q) H3.out.jr.lt 0 ⟨some ⟨gx, 0, none⟩, b.length, cx⟩ b hee.out
      have H4 := H3.out.step ((Below.refl _ _).alloc (Nat.le_refl _) (.cells #[.int .i64 0, .slice (some ⟨gx, 0, none⟩) b.length cx] 39))
      have HX4 := Kd.R_alloc HX3.out (.cells #[.int .i64 0, .slice (some ⟨gx, 0, none⟩) b.length cx] 39)
      refine (SDo_law H4 (m := 1) (by rfl) _ 1 (l := [(0, b)]) hch (by simp) HD1.out).mono ?_
      rintro e w5 ⟨rfl, h5, o5⟩
      have H5 := Fact.mk h5
      have I0 : Fact (∃ l, OwnB w5 w2.heap.size (fun k => w2.heap.size ≤ k) (.slice (some ⟨gx, 0, none⟩) b.length cx) l ∧ l.length = b.length ∧ Sl w w5 L D1 q s false) := ⟨b, own_only HX4 o5 (fun k hk h => by have := HRS.out k h; omega), rfl, h5⟩
      clear h5 o5 hch H4 HX4 H3 HX3 hee
      go_wp2_with fail
      go_loopw [41] (fun v41 wr => ∃ j : Nat, v41 = .int .i64 (j : Int) ∧ j ≤ b.length ∧ Fact (∃ l, OwnB wr w2.heap.size (fun k => w2.heap.size ≤ k) (.slice (some ⟨gx, 0, none⟩) b.length cx) l ∧ l.length = b.length ∧ Sl w wr L D1 q s false)) (fun v _ => b.length - (intOf v).toNat)
      case atStart => exact ⟨0, rfl, Nat.zero_le _, I0⟩
      case round =>
        obtain ⟨j, rfl, hj, R⟩ := hrel
        clear I0 H5
        obtain ⟨l, hown, hll, hsl2⟩ := R.out
        have HO := Fact.mk hown
        have HSl := Fact.mk hsl2
        have HLl := Fact.mk hll
        by_cases hlt : j < b.length
        · have hlt2 : (j : Int) < (b.length : Int) := by omega
          obtain ⟨g', x, eg, -, -, k0, f0⟩ := own_at hown hll hlt
          injection eg with eg
          injection eg with eg
          subst eg
          clear R hown hsl2 hll
          go_wp2_with fail
          refine ⟨⟨j + 1, by go_num, by omega, ⟨_, own_put HO.out j _, by rw [List.length_set]; exact HLl.out, HSl.out.only (Only.setCell (S := fun k => k = gx) wr rfl _) (fun k hk => by rw [hk]; exact Nat.le_trans hw2.out hgx.out) (fun k hk e => by have := HRS.out k hk; have := hgx.out; omega) (fun e => by have := hsl.out; have := hgx.out; omega)⟩⟩, by simp [intOf]; omega⟩
        · have he : j = b.length := by omega
          subst he
          have hlt2 : ¬ ((b.length : Int) < (b.length : Int)) := by omega
          clear R hown hsl2 hll HO HLl
          go_wp2_with fail
          refine (Get_law HSl.out HR1.out HU1.out rfl (ii := 0) rfl HS1.out (by decide)).mono ?_
          rintro e w6 ⟨hg, h6, -⟩
          rcases hg with ⟨hg | hg, -⟩
          · exact absurd hg.1 (List.length_pos_iff.1 hbl)
          · obtain ⟨-, g, cg, out, rfl, hown, htk, hle⟩ := hg
            have hgw : wr.heap.size ≤ g := hown.1 g (by simp [Value.ownBlock])
            have HGw := Fact.mk (Nat.le_trans HSl.out.jr.below.size hgw)
            have HGr : Fact (∀ k, RS L q k → k < g) := ⟨fun k hk => Nat.lt_of_lt_of_le (HSl.out.jr.lt k hk) hgw⟩
            have HGs : Fact (s < g) := ⟨Nat.lt_of_lt_of_le HSl.out.slots.lt hgw⟩
            have I1 : Fact (∃ l, OwnB w6 wr.heap.size (fun k => wr.heap.size ≤ k) (.slice (some ⟨g, 0, none⟩) out.length cg) l ∧ l.length = out.length ∧ Sl w w6 L D1 q s false) := ⟨out, hown, rfl, h6⟩
            replace hle := Fact.mk hle
            clear hown htk h6 hgw
            generalize wr.heap.size = bs at *
            clear HSl
            go_wp2_with fail
            go_loopw [58] (fun v58 wq => ∃ j : Nat, v58 = .int .i64 (j : Int) ∧ j ≤ b.length ∧ Fact (∃ l, OwnB wq bs (fun k => bs ≤ k) (.slice (some ⟨g, 0, none⟩) out.length cg) l ∧ l.length = out.length ∧ Sl w wq L D1 q s false)) (fun v _ => b.length - (intOf v).toNat)
            case atStart => exact ⟨0, rfl, Nat.zero_le _, I1⟩
            case round =>
              obtain ⟨j, rfl, hj, R⟩ := hrel
              clear I1
              obtain ⟨l, hown, hll, hsl2⟩ := R.out
              have HO := Fact.mk hown
              have HSl := Fact.mk hsl2
              have HLl := Fact.mk hll
              by_cases hlt : j < b.length
              · have hlt2 : (j : Int) < (b.length : Int) := by omega
                obtain ⟨g', x, eg, -, -, k0, f0⟩ := own_at hown hll (by have := hle.out; omega : j < out.length)
                injection eg with eg
                injection eg with eg
                subst eg
                clear R hown hsl2 hll
                go_wp2_with fail
                refine ⟨⟨j + 1, by go_num, by omega, ⟨_, own_put HO.out j _, by rw [List.length_set]; exact HLl.out, HSl.out.only (Only.setCell (S := fun k => k = g) wr rfl _) (fun k hk => by rw [hk]; exact HGw.out) (fun k hk e => by have := HGr.out k hk; omega) (fun e => by have := HGs.out; omega)⟩⟩, by simp [intOf]; omega⟩
              · have he : j = b.length := by omega
                subst he
                have hlt2 : ¬ ((b.length : Int) < (b.length : Int)) := by omega
                clear R hown hsl2 hll HO HLl
                go_wp2_with fail
                refine (Get_law HSl.out HR1.out HU1.out rfl (ii := 0) rfl HS1.out (by decide)).mono ?_
                rintro e w7 ⟨hg, h7, -⟩
                rcases hg with ⟨hg | hg, -⟩
                · exact absurd hg.1 (List.length_pos_iff.1 hbl)
                · obtain ⟨-, g2, cg2, out2, rfl, hown2, htk2, hle2⟩ := hg
                  have hcz : (convert 37 9 (.slice (some ⟨g2, 0, none⟩) b.length b.length)).run Try.prog w7 = .ok (.string (strOfNums b)) w7 := by
                    have h1 := C_take (own_reads_ hown2).2.2 hle2
                    rw [htk2] at h1
                    exact Kd.C_string Try.underlying37 Try.underlying5 Try.underlying9 h1
                  have hcb : (convert 37 9 (.slice A b.length c)).run Try.prog w7 = .ok (.string (strOfNums b)) w7 := Kd.C_string Try.underlying37 Try.underlying5 Try.underlying9 (Kd.C_below HB.out h7.jr.below)
                  have H7 := Fact.mk h7.jr.below
                  clear hown2 htk2 hle2 h7 HSl
                  go_wp2_with fail
                  go_ret
                  exact ⟨rfl, H7.out⟩
end Go.Proofs.Ytdkijmikafmgaaa.Dk
