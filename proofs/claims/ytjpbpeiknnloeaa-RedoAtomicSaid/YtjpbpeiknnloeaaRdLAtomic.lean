/-
The law RedoAtomic: true.
-/
import Derived.Test.YtjpbpeiknnloeaaRdLBase
namespace Go.Proofs.Ytjpbpeiknnloeaa.Dk
open Go.RowKit Go.Maps Go.Proofs.YtjpbpeiknnloeaaW.PrintWords Go.Proofs.YtjpbpeiknnloeaaW.PrintLast Go.Proofs.YtjpbpeiknnloeaaW.PrintMore
set_option linter.unusedVariables false
set_option linter.unusedSimpArgs false

set_option maxHeartbeats 8000000 in
set_option maxRecDepth 1000000 in
theorem RedoAtomic_true (w : World) (A : Option Addr) (ca : Nat) (a : List Ch) (hA : Kd.C inK w A a.length a) (hca : a.length ≤ ca) {pa : Prop} (_ : pa) (B : Option Addr) (cb : Nat) (b : List Ch) (hB : Kd.C inK w B b.length b) (hcb : b.length ≤ cb) {pb : Prop} (_ : pb)
    (arm : Int) (harm : (Lit.int .i64 arm).wf = true) (Z : Option Addr) (ck : Nat) (keep : List Bool) (hZ : ReadBool w Z keep.length keep) (hck : keep.length ≤ ck) {pk : Prop} (_ : pk) (G : Option Addr) (cg : Nat) (again : List Int) (hG : ReadI w G again.length again) (hcg : again.length ≤ cg) (hag : again.length ≤ 9223372036854775807 ∧ ∀ x ∈ again, (Lit.int .i64 x).wf = true) :
    Calls Try.prog 3 #[.slice A a.length ca, .slice B b.length cb, .int .i64 arm, .slice Z keep.length ck, .slice G again.length cg] w fun e w' => e = .returned (.bool true) ∧ Below w.heap.size w w' := by
  have harm2 : arm < 9223372036854775808 := wf_top harm
  have HA := Fact.mk hA
  have HB := Fact.mk hB
  have HZ := Fact.mk hZ
  have HG := Fact.mk hG
  have HAg : Fact (∀ x ∈ again, x < 9223372036854775808) := ⟨fun x hx => wf_top (hag.2 x hx)⟩
  replace harm2 := Fact.mk harm2
  clear hA hB hZ hG hag harm
  go_enter Try.func3, Try.ntmps3
  go_wp2_with fail
  refine (anchor_true w).mono ?_
  rintro e w1 ⟨rfl, b1⟩
  have B1 := Fact.mk b1
  clear b1
  go_wp2_with fail
  have hs := small_any (w := w1.alloc (.cells #[.int .i64 0, .int .i64 0, .slice A a.length ca, .slice Z keep.length ck, .bool false, .slice none 0 0, .int .i64 0, .int .i64 0, .slice B b.length cb, .slice none 0 0, .bool false, .slice none 0 0] 29)) (S := fun _ => False) w1.heap.size [⟨0, 0, A, a, ca, Z, keep.length, ck, false, none, 0, 0⟩, ⟨0, 0, B, b, cb, none, 0, 0, false, none, 0, 0⟩] 2 2 (heap_alloc_new w1 _) (by simp) (by omega) (by omega) (by
    intro o ho
    have hst : Only (fun _ => False) w (w1.alloc (.cells #[.int .i64 0, .int .i64 0, .slice A a.length ca, .slice Z keep.length ck, .bool false, .slice none 0 0, .int .i64 0, .int .i64 0, .slice B b.length cb, .slice none 0 0, .bool false, .slice none 0 0] 29)) := Only.of_below (B1.out.alloc B1.out.size _) _
    simp only [List.mem_cons, List.not_mem_nil, or_false] at ho
    rcases ho with rfl | rfl
    · exact (args_of HA.out (fun _ h => h.elim)).step hst
    · exact (args_of HB.out (fun _ h => h.elim)).step hst)
  refine hs.mono ?_
  clear hs
  rintro e w2 ⟨bs, rfl, -, b2⟩
  have B2 : Fact (Below w.heap.size w w2) := ⟨next_new (B1.out.alloc B1.out.size _) b2⟩
  clear b2 B1
  cases bs with
  | false =>
    go_wp2_with fail
    go_ret
    exact ⟨rfl, B2.out⟩
  | true =>
    by_cases hal : (12 : Int) < (again.length : Int)
    · go_wp2_with fail
      go_ret
      exact ⟨rfl, B2.out⟩
    · go_wp2_with fail
      refine (New_law w B2.out (n := 120) (by omega) (by omega)).mono ?_
      rintro e w3 ⟨L, rfl, h3⟩
      have H3 := Fact.mk h3
      clear h3 B2
      go_wp2_with fail
      have r0 : Rests 120 (fun _ => nought) (PD.new 120) := Rests.new (by decide) (by decide)
      refine (Open_first H3.out (by decide) r0.lows (open_rests r0 (by decide) rfl)).mono ?_
      clear r0
      rintro e w4 ⟨q, rfl, h4⟩
      have H4 := Fact.mk h4
      clear h4 H3
      go_wp2_with fail
      have hcA : Chs (RS L q) w4 A a := (args_of HA.out H4.out.new).step (Only.of_below H4.out.below _)
      rcases do_new a with ⟨hd1, -⟩ | ⟨D1, f1, hd1, hj1, hr1, hu1, hf1⟩
      · refine (Do_law H4.out A ca hcA hd1).mono ?_
        rintro e w5 ⟨rfl, h5, -⟩
        have B5 := Fact.mk h5.below
        clear h5 hcA hd1
        go_wp2_with fail
        go_ret
        exact ⟨rfl, B5.out⟩
      · refine (Do_law H4.out A ca hcA hd1).mono ?_
        rintro e w5 ⟨rfl, h5, -⟩
        have H5 := Fact.mk h5
        have R1 := Fact.mk hr1
        have U1 := Fact.mk hu1.down
        clear h5 hcA hd1 hj1 hr1 hu1 hf1 H4
        go_wp2_with fail
        refine (whole_rests H5.out R1.out U1.out).mono ?_
        rintro e w6 ⟨Aw, cw, rfl, hw6, h6, b6⟩
        have H6 := Fact.mk h6
        have W6 := Fact.mk (hw6 (RS L q) H5.out.lt)
        clear hw6 h6 b6 H5
        go_wp2_with fail
        refine (Arm_law H6.out arm harm2.out).mono ?_
        rintro e w7 ⟨rfl, h7, o7⟩
        have H7 := Fact.mk h7
        have W7 := Fact.mk (W6.out.step o7)
        have R7 := Fact.mk (R1.out.arm harm2.out)
        have U7 : Fact ((D1.arm arm).down = false) := ⟨U1.out⟩
        have DA := Fact.mk (do_armed R7.out b)
        clear h7 o7 H6 W6 R1 U1
        generalize D1.arm arm = D2 at *
        go_wp2_with fail
        have hcB : Chs (RS L q) w7 B b := (args_of HB.out H7.out.new).step (Only.of_below H7.out.below _)
        rcases DA.out with hd2 | ⟨e2, D3, hd2, hj2, hi3, hr3, he2⟩
        · refine (Do_law H7.out B cb hcB hd2).mono ?_
          rintro e w8 ⟨rfl, h8, o8⟩
          have H8 := Fact.mk h8
          have W8 := Fact.mk (W7.out.step o8)
          clear h8 o8 H7 W7 hcB hd2 DA
          go_wp2_with fail
          skip
          refine start_ (n := 7) (S := fun w' => Sees (RS L q) w' ⟨Aw, 1280, cw⟩ (datas f1)) (ds := []) #[false, false, false, false, false, false, false] (by kernel_rfl) rfl rfl (W8.out.step ((Only.refl _ _).drew)) (fun hHeld => ?_)
          have H9 : Fact (Jr w w8.drew L D2 q false) := ⟨H8.out.step ((Below.refl _ _).drew)⟩
          clear H8 W8
          generalize w8.drew = W9 at *
          refine pure_ (i := 0) (N := (some 62)) (v := ?_) (a' := ?_) #[true, false, false, false, false, false, false] rfl rfl (by kernel_rfl) (fun _ _ _ h => h) (Or.inl ⟨by rfl, ?_⟩) ?_ ?_
          rotate_left
          · intro w'
            go_simp
            with_reducible rfl
          rotate_left
          · simp only [Act.put, List.setIfInBounds_toArray, List.set_cons_zero, List.set_cons_succ, i64_w, i32_w]
            rfl
          refine pure_ (i := 3) (N := (some 65)) (v := ?_) (a' := ?_) #[true, false, false, true, false, false, false] rfl rfl (by kernel_rfl) (fun _ _ _ h => h) (Or.inl ⟨by rfl, ?_⟩) ?_ ?_
          rotate_left
          · intro w'
            go_simp
            with_reducible rfl
          rotate_left
          · simp only [Act.put, List.setIfInBounds_toArray, List.set_cons_zero, List.set_cons_succ, i64_w, i32_w]
            rfl
          refine take_ (i := 4) (N := (some 66)) (v := .string (strOfNums (datas f1))) (a' := ?_) #[true, false, false, true, true, false, false] rfl rfl (by kernel_rfl) (fun _ _ _ h => h) (Or.inl ⟨by rfl, (fun w' s0 => by have hcv := seen_string s0; go_simp)⟩) hHeld ?_ ?_
          rotate_left
          · simp only [Act.put, List.setIfInBounds_toArray, List.set_cons_zero, List.set_cons_succ, i64_w, i32_w]
            rfl
          refine one_ (i := 1) (N := (some 63)) #[true, true, false, true, true, false, false] rfl rfl (by kernel_rfl) (by decide) (fun K hK => ?_)
          refine goes_ Try.func13 (by kernel_rfl) rfl #[.pointer (some ⟨q, 0, none⟩)] (by rfl) rfl rfl (by (try simp only [List.map_toArray, List.map_cons, List.map_nil]); first | done | rfl) ?_
          refine (whole_rests H9.out R7.out U7.out).mono ?_
          rintro e w10 ⟨Av, cv, rfl, hw10, h10, b10⟩
          have hse := hw10 (fun _ => False) (fun _ h => h.elim)
          have H10 := Fact.mk h10
          replace hHeld := hHeld.step (Only.of_below b10 (RS L q))
          clear hw10 h10 b10 H9
          clear W9
          refine ⟨_, rfl, ?_⟩
          refine hK.out _ _ hHeld (fun hxx => ?_)
          clear hK K hxx
          refine norm_ (a' := ?_) ?_ ?_
          rotate_left
          · show Act.put _ (some 63) _ = _
            simp only [Act.put, List.setIfInBounds_toArray, List.set_cons_zero, List.set_cons_succ, i64_w, i32_w]
            rfl
          refine one_ (i := 2) (N := (some 64)) #[true, true, true, true, true, false, false] rfl rfl (by kernel_rfl) (by decide) (fun K hK => ?_)
          refine value_ (v := .string (strOfNums (datas f1))) (w1 := w10) (by rfl) rfl (by have hcv := seen_string hse; go_simp) ?_
          refine hK.out _ _ hHeld (fun hxx => ?_)
          clear hK K hxx
          refine norm_ (a' := ?_) ?_ ?_
          rotate_left
          · show Act.put _ (some 64) _ = _
            simp only [Act.put, List.setIfInBounds_toArray, List.set_cons_zero, List.set_cons_succ, i64_w, i32_w]
            rfl
          refine pure_ (i := 5) (N := (some 67)) (v := ?_) (a' := ?_) #[true, true, true, true, true, true, false] rfl rfl (by kernel_rfl) (fun _ _ _ h => h) (Or.inl ⟨by rfl, ?_⟩) ?_ ?_
          rotate_left
          · intro w'
            go_simp
            with_reducible rfl
          rotate_left
          · simp only [Act.put, List.setIfInBounds_toArray, List.set_cons_zero, List.set_cons_succ, i64_w, i32_w]
            rfl
          refine pure_ (i := 6) (N := (some 10)) (v := ?_) (a' := ?_) #[true, true, true, true, true, true, true] rfl rfl (by kernel_rfl) (fun _ _ _ h => h) (Or.inl ⟨by rfl, ?_⟩) ?_ ?_
          rotate_left
          · intro w'
            go_simp
            with_reducible rfl
          rotate_left
          · simp only [Act.put, List.setIfInBounds_toArray, List.set_cons_zero, List.set_cons_succ, i64_w, i32_w]
            rfl
          refine done_ (by kernel_rfl) ?_
          go_wp2_with fail
          go_ret
          exact ⟨rfl, H10.out.below⟩
        · refine (Do_law H7.out B cb hcB hd2).mono ?_
          rintro e w8 ⟨rfl, h8, o8⟩
          generalize decide (e2 ≠ 0) = br at h8
          have W8 := Fact.mk (W7.out.step o8)
          have J2 := Fact.mk hj2
          have he10 : ¬ e2 = 10 := by rcases he2 with rfl | rfl <;> decide
          have I0 : Fact (∃ D, Again b f1 e2 D ∧ Jr w w8 L D q br ∧ Sees (RS L q) w8 ⟨Aw, 1280, cw⟩ (datas f1)) := ⟨D3, ⟨hi3, fun h => (hr3 h).mays⟩, h8, W8.out⟩
          have DD := Fact.mk (datas_done hj2 R7.out)
          have DL := Fact.mk (datas_length R7.out)
          have HF := Fact.mk hj2.fit
          replace he2 := Fact.mk he2
          clear h8 o8 H7 W7 W8 hcB hd2 DA hi3 hr3 hj2 R7 U7
          go_wp2_with fail
          clear he10
          have hb10 : (e2 == 10) = false := by rcases he2.out with h | h <;> rw [h] <;> rfl
          rw [hb10]
          go_loopw [70] (fun v70 wr => ∃ i : Nat, v70 = .int .i64 (i : Int) ∧ i ≤ again.length ∧ Fact (∃ D, Again b f1 e2 D ∧ Jr w wr L D q br ∧ Sees (RS L q) wr ⟨Aw, 1280, cw⟩ (datas f1))) (fun v _ => again.length - (intOf v).toNat)
          case atStart => exact ⟨0, rfl, Nat.zero_le _, I0⟩
          case round =>
            obtain ⟨i, rfl, hi, R⟩ := hrel
            clear I0
            obtain ⟨D, hag, hj, hw⟩ := R.out
            have HAgn := Fact.mk hag
            have HJ := Fact.mk hj
            have HW := Fact.mk hw
            clear R hag hj hw
            have hkeep : Fact (∀ W, Only L.S wr W → ReadBool W Z keep.length keep) := ⟨fun W ho => Kd.C_below HZ.out (next_below HJ.out.below ho HJ.out.at_.new)⟩
            by_cases hlt : i < again.length
            · have hlt2 : (i : Int) < (again.length : Int) := by omega
              obtain ⟨ad, eG, cG⟩ := int_cell (Kd.C_below HG.out HJ.out.below) hlt
              subst eG
              have hx : again.getD i 0 < 9223372036854775808 := HAg.out _ (by rw [List.getD_eq_getElem?_getD, List.getElem?_eq_getElem hlt]; exact List.getElem_mem hlt)
              replace hx := Fact.mk hx
              generalize again.getD i 0 = x at *
              go_wp2_with fail
              refine (Crash_law HJ.out Z ck keep hkeep.out).mono ?_
              rintro e w9 ⟨rfl, h9, o9⟩
              have H9 := Fact.mk h9
              have W9 := Fact.mk (HW.out.step o9)
              clear h9 o9 cG HJ HW hkeep
              go_wp2_with fail
              refine (Arm_law H9.out x hx.out).mono ?_
              rintro e w10 ⟨rfl, h10, o10⟩
              have H10 := Fact.mk h10
              have W10 := Fact.mk (W9.out.step o10)
              clear h10 o10 H9 W9
              have A10 := Fact.mk ((HAgn.out.crash keep).arm hx.out)
              go_wp2_with fail
              refine (Open_some H10.out (by rw [A10.out.inv.size]; decide) (A10.out.inv.low (crash_settled D keep))).mono ?_
              rintro e w11 ⟨v, rfl, h11, o11⟩
              have I1 : Fact (∃ D, Again b f1 e2 D ∧ Jr w w11 L D q br ∧ Sees (RS L q) w11 ⟨Aw, 1280, cw⟩ (datas f1)) := ⟨_, A10.out.open_ J2.out (crash_settled D keep) rfl, h11, W10.out.step o11⟩
              clear h11 o11 H10 W10 A10 HAgn
              go_wp2_with fail
              exact ⟨⟨i + 1, by go_num, by omega, I1⟩, by simp [intOf]; omega⟩
            · have he : i = again.length := by omega
              subst he
              have hlt2 : ¬ ((again.length : Int) < (again.length : Int)) := by omega
              go_wp2_with fail
              refine (Crash_law HJ.out Z ck keep hkeep.out).mono ?_
              rintro e w9 ⟨rfl, h9, o9⟩
              have H9 := Fact.mk h9
              have W9 := Fact.mk (HW.out.step o9)
              have A9 := Fact.mk (HAgn.out.crash keep)
              obtain ⟨D5, g, ho5, hd5, hr5, hg1, hg2⟩ := A9.out.last J2.out (crash_settled D keep) (PD.Up.crash D keep)
              have HO5 := Fact.mk ho5
              have HD5 := Fact.mk hd5
              have HR5 := Fact.mk hr5
              clear h9 o9 HJ HW hkeep ho5 hd5 hr5
              go_wp2_with fail
              refine (Open_law H9.out (by rw [A9.out.inv.size]; decide) (A9.out.inv.low (crash_settled D keep)) HO5.out).mono ?_
              rintro e w10 ⟨q', rfl, -, h10, o10⟩
              have H10 := Fact.mk h10
              have W10 := Fact.mk (W9.out.step o10)
              clear h10 o10 H9 W9 A9 HAgn
              go_wp2_with fail
              refine (whole_rests H10.out HR5.out HD5.out).mono ?_
              rintro e w11 ⟨An, cn, rfl, hw11, h11, b11⟩
              have hs11 := seen_string (hw11 (fun _ => False) (fun _ h => h.elim))
              have H11 := Fact.mk h11
              have W11 := Fact.mk (W10.out.step (Only.of_below b11 (RS L q)))
              clear hw11 h11 b11 H10 W10
              rcases he2.out with he0 | he0
              · have hg := hg2 he0
                subst hg he0
                have hdn := done_any (w := w11) (S := fun _ => False) Aw cw (datas f1) (by have := W11.out.reads w11 (Only.refl _ _); exact this) B cb b ((args_of HB.out (fun _ h => h.elim)).step (Only.of_below H11.out.below _)) (by rw [DL.out]; decide) (by rw [DL.out]; decide) (fun x hx => by rw [DL.out]; exact ⟨(HF.out x hx).1, by have := (HF.out x hx).2.1; omega, (HF.out x hx).2.2⟩)
                rw [DL.out, DD.out] at hdn
                have HDn := Fact.mk hdn
                clear hdn
                go_wp2_with fail
                refine HDn.out.mono ?_
                rintro e w12 ⟨v, rfl, hv, b12⟩
                obtain ⟨Ad, cd, rfl, -, hrd⟩ := Kd.R_reads hv
                have hs12 : (convert 27 9 (.slice Ad (datas (wrote (ats b) f1)).length cd)).run Try.prog w12 = .ok (.string (strOfNums (datas (wrote (ats b) f1)))) w12 := Kd.C_string Try.underlying27 Try.underlying5 Try.underlying9 hrd
                have B12 := Fact.mk (next_new H11.out.below b12)
                clear hv hrd b12 HDn
                go_wp2_with fail
                go_ret
                exact ⟨rfl, B12.out⟩
              · have hdn := done_any (w := w11) (S := fun _ => False) Aw cw (datas f1) (by have := W11.out.reads w11 (Only.refl _ _); exact this) B cb b ((args_of HB.out (fun _ h => h.elim)).step (Only.of_below H11.out.below _)) (by rw [DL.out]; decide) (by rw [DL.out]; decide) (fun x hx => by rw [DL.out]; exact ⟨(HF.out x hx).1, by have := (HF.out x hx).2.1; omega, (HF.out x hx).2.2⟩)
                rw [DL.out, DD.out] at hdn
                have HDn := Fact.mk hdn
                have hwas := seen_string W11.out
                clear hdn
                subst he0
                rcases hg1 with hg | hg
                · subst hg
                  go_wp2_with fail
                  go_ret
                  exact ⟨rfl, H11.out.below⟩
                · subst hg
                  by_cases hne : strOfNums (datas (wrote (ats b) f1)) = strOfNums (datas f1)
                  · have hq := str_eq hne
                    go_wp2_with fail
                    go_ret
                    exact ⟨rfl, H11.out.below⟩
                  · have hq := str_ne hne
                    go_wp2_with fail
                    refine HDn.out.mono ?_
                    rintro e w12 ⟨v, rfl, hv, b12⟩
                    obtain ⟨Ad, cd, rfl, -, hrd⟩ := Kd.R_reads hv
                    have hs12 : (convert 27 9 (.slice Ad (datas (wrote (ats b) f1)).length cd)).run Try.prog w12 = .ok (.string (strOfNums (datas (wrote (ats b) f1)))) w12 := Kd.C_string Try.underlying27 Try.underlying5 Try.underlying9 hrd
                    have B12 := Fact.mk (next_new H11.out.below b12)
                    clear hv hrd b12 HDn
                    go_wp2_with fail
                    go_ret
                    exact ⟨rfl, B12.out⟩
end Go.Proofs.Ytjpbpeiknnloeaa.Dk
