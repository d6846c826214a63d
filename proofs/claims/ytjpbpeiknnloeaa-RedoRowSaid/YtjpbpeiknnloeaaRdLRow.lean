/-
The law RedoRow: true.
-/
import Derived.Test.YtjpbpeiknnloeaaRdLBase2
namespace Go.Proofs.Ytjpbpeiknnloeaa.Dk
open Go.RowKit Go.Maps Go.Proofs.YtjpbpeiknnloeaaW.PrintWords Go.Proofs.YtjpbpeiknnloeaaW.PrintLast Go.Proofs.YtjpbpeiknnloeaaW.PrintMore
set_option linter.unusedVariables false
set_option linter.unusedSimpArgs false

theorem jobs_cell {w : World} {A : Option Addr} {l : List (List Ch)} (h : Kd.C (Kd.slice 47 inK) w A l.length l) {k : Nat} (hk : k < l.length) : ∃ ad Aj cj, A = some ad ∧ w.cell? (ad.add k) = some (.slice Aj (l.getD k []).length cj) ∧ Kd.C inK w Aj (l.getD k []).length (l.getD k []) := by
  obtain ⟨ad, e, hc⟩ := h.2.2 (by omega)
  obtain ⟨c, h1, ⟨Aj, cj, h2, h5, h6⟩, h3⟩ := hc k l[k] (List.getElem?_eq_getElem hk)
  have h4 : l.getD k [] = l[k] := by rw [List.getD_eq_getElem?_getD, List.getElem?_eq_getElem hk]; rfl
  rw [h4]
  refine ⟨ad, Aj, cj, e, ?_, h6⟩
  have := h3 0 (.slice Aj l[k].length cj) (by rw [h2]; rfl)
  simpa [Kd.slice] using this
theorem bytesTo_nought (m : Nat) : bytesTo (fun _ => nought) m = List.replicate (64 * m) 0 := by
  induction m with
  | zero => rfl
  | succ m ih => rw [bytesTo_step, ih, List.replicate_append_replicate]; rfl
theorem datas_nought : datas (fun _ => nought) = List.replicate 1280 0 := bytesTo_nought 20
theorem made_u8 (m : Nat) : madeCells #[.int .u8 0] m = ((List.replicate m (0 : Int)).map (Value.int .u8)).toArray := by
  rw [List.map_replicate]
  apply Array.ext
  · simp [madeCells]
  · intro i h1 h2
    simp [madeCells, Nat.mod_one]
theorem made1280 : ∀ W : World, (Instr.makeSlice 27 (.int .i64 1280) (.int .i64 1280)).run Try.prog W = .ok (.slice (some ⟨W.heap.size, 0, none⟩) 1280 1280) (W.alloc (.cells ((datas (fun _ => nought)).map (Value.int .u8)).toArray 5)) := by
  intro W
  have := print_make (P := Try.prog) 27 5 .u8 1 Try.underlying27 info_u8 (by omega) 1280 (by omega) W
  have e : madeCells #[.int .u8 0] 1280 = ((datas (fun _ => nought)).map (Value.int .u8)).toArray := by rw [datas_nought]; exact made_u8 1280
  rw [← e]; exact this
set_option maxHeartbeats 8000000 in
set_option maxRecDepth 1000000 in
theorem RedoRow_true (w : World) (A : Option Addr) (ca : Nat) (l : List (List Ch)) (hA : Kd.C (Kd.slice 47 inK) w A l.length l) (hca : l.length ≤ ca) {pa : Prop} (_ : pa) :
    Calls Try.prog 4 #[.slice A l.length ca] w fun e w' => e = .returned (.bool true) ∧ Below w.heap.size w w' := by
  have HA := Fact.mk hA
  have hmk := made1280
  clear hA
  go_enter Try.func4, Try.ntmps4
  go_wp2_with fail
  refine (anchor_true w).mono ?_
  rintro e w2 ⟨rfl, b1⟩
  have B2 := Fact.mk b1
  clear b1
  by_cases hl12 : (12 : Int) < (l.length : Int)
  · go_wp2_with fail
    go_ret
    exact ⟨rfl, B2.out⟩
  · go_wp2_with fail
    refine (New_law w B2.out (n := 120) (by omega) (by omega)).mono ?_
    rintro e w3 ⟨L, rfl, h3⟩
    have H3 := Fact.mk h3
    clear h3 B2
    go_wp2_with fail
    refine (Open_first H3.out (by decide) new_rests.lows (open_rests new_rests (by decide) rfl)).mono ?_
    rintro e w4 ⟨q, rfl, h4⟩
    have H4 := Fact.mk h4
    clear h4 H3
    have HW : Fact (Sees (RS L q) (w4.alloc (.cells ((datas (fun _ => nought)).map (Value.int .u8)).toArray 5)) ⟨some ⟨w4.heap.size, 0, none⟩, 1280, 1280⟩ (datas (fun _ => nought))) := ⟨by
      have hlen : (datas (fun _ => nought)).length = 1280 := datas_length new_rests
      have hb := bytes_new w4 (datas (fun _ => nought)) 5 (by rw [hlen]; decide)
      exact ⟨hlen.symm, by rw [hlen]; exact Nat.le_refl _, fun w' ho => (hb.only ho (fun hk => Nat.lt_irrefl _ (H4.out.lt _ hk))).reads⟩⟩
    have H5 := Fact.mk (H4.out.step ((Below.refl _ _).alloc (Nat.le_refl _) (.cells ((datas (fun _ => nought)).map (Value.int .u8)).toArray 5)))
    have I0 : Fact (∃ D f, Rests 120 f D ∧ D.Up ∧ Jr w (w4.alloc (.cells ((datas (fun _ => nought)).map (Value.int .u8)).toArray 5)) L D q false ∧ ∃ Aw cw, Value.slice (some ⟨w4.heap.size, 0, none⟩) 1280 1280 = .slice Aw 1280 cw ∧ Sees (RS L q) (w4.alloc (.cells ((datas (fun _ => nought)).map (Value.int .u8)).toArray 5)) ⟨Aw, 1280, cw⟩ (datas f)) := ⟨PD.new 120, _, new_rests, PD.Up.new 120, H5.out, _, _, rfl, HW.out⟩
    clear HW H5
    go_wp2_with fail
    clear hmk
    go_loopw [6, 31] (fun v6 v31 wr => ∃ j : Nat, v31 = .int .i64 (j : Int) ∧ j ≤ l.length ∧ Fact (∃ D f, Rests 120 f D ∧ D.Up ∧ Jr w wr L D q false ∧ ∃ Aw cw, v6 = .slice Aw 1280 cw ∧ Sees (RS L q) wr ⟨Aw, 1280, cw⟩ (datas f))) (fun _ v _ => l.length - (intOf v).toNat)
    case atStart => exact ⟨0, rfl, Nat.zero_le _, I0⟩
    case round =>
      obtain ⟨j, rfl, hj, R⟩ := hrel
      clear I0
      obtain ⟨D, f, hr, hu, hjr, Aw, cw, rfl, hw⟩ := R.out
      have HR := Fact.mk hr
      have HU := Fact.mk hu
      have HJ := Fact.mk hjr
      have HW := Fact.mk hw
      clear R hr hu hjr hw
      by_cases hlt : j < l.length
      · have hlt2 : (j : Int) < (l.length : Int) := by omega
        obtain ⟨ad, Aj, cj, hA2, cA, hcA⟩ := jobs_cell HA.out hlt
        subst hA2
        replace cA := pw_cell_below HJ.out.below cA
        have HC := Fact.mk hcA
        clear hcA
        generalize l.getD j [] = a at *
        go_wp2_with fail
        refine (small_step HC.out HJ.out cj).mono ?_
        rintro e w5 ⟨bs, rfl, -, b5⟩
        have H5 := Fact.mk (HJ.out.step b5)
        have W5 := Fact.mk (HW.out.step (Only.of_below b5 (RS L q)))
        clear b5 HJ HW cA
        cases bs with
        | false =>
          go_wp2_with fail
          go_ret
          exact ⟨rfl, H5.out.below⟩
        | true =>
          go_wp2_with fail
          have hcC : Chs (RS L q) w5 Aj a := (args_of HC.out H5.out.new).step (Only.of_below H5.out.below _)
          obtain ⟨e1, D1, f1, hd1, hr1, hu1, hcase⟩ := do_rests HR.out HU.out a
          refine (Do_law H5.out Aj cj hcC hd1).mono ?_
          rintro e w6 ⟨rfl, h6, o6⟩
          have H6 := Fact.mk h6
          have W6 := Fact.mk (W5.out.step o6)
          have R6 := Fact.mk hr1
          have U6 := Fact.mk hu1
          clear h6 o6 hcC hd1 hr1 hu1 H5 W5
          rcases hcase with ⟨rfl, rfl, rfl⟩ | ⟨rfl, hj1, rfl⟩
          · go_wp2_with fail
            skip
            refine start_ (n := 16) (S := fun w' => Sees (RS L q) w' ⟨Aw, 1280, cw⟩ (datas f1)) (ds := []) #[false, false, false, false, false, false, false, false, false, false, false, false, false, false, false, false] (by kernel_rfl) rfl rfl (W6.out.step ((Only.refl _ _).drew)) (fun hHeld => ?_)
            have H9 : Fact (Jr w w6.drew L D1 q false) := ⟨H6.out.step ((Below.refl _ _).drew)⟩
            clear H6 W6
            generalize w6.drew = W9 at *
            refine pure_ (i := 0) (N := (some 47)) (v := ?_) (a' := ?_) #[true, false, false, false, false, false, false, false, false, false, false, false, false, false, false, false] rfl rfl (by kernel_rfl) (fun _ _ _ h => h) (Or.inl ⟨by rfl, ?_⟩) ?_ ?_
            rotate_left
            · intro w'
              go_simp
              with_reducible rfl
            rotate_left
            · simp only [Act.put, List.setIfInBounds_toArray, List.set_cons_zero, List.set_cons_succ, i64_w, i32_w]
              rfl
            refine one_ (i := 1) (N := (some 48)) #[true, true, false, false, false, false, false, false, false, false, false, false, false, false, false, false] rfl rfl (by kernel_rfl) (by decide) (fun K hK => ?_)
            refine goes_ Try.func17 (by kernel_rfl) rfl #[.pointer (some ⟨q, 0, none⟩)] (by rfl) rfl rfl (by (try simp only [List.map_toArray, List.map_cons, List.map_nil]); first | done | rfl) ?_
            refine (Broken_any H9.out.redo).mono ?_
            rintro e w10 ⟨rfl, rfl⟩
            refine ⟨_, rfl, ?_⟩
            refine hK.out _ _ hHeld (fun hxx => ?_)
            clear hK K hxx
            refine norm_ (a' := ?_) ?_ ?_
            rotate_left
            · show Act.put _ (some 48) _ = _
              simp only [Act.put, List.setIfInBounds_toArray, List.set_cons_zero, List.set_cons_succ, i64_w, i32_w]
              rfl
            refine pure_ (i := 2) (N := (some 49)) (v := ?_) (a' := ?_) #[true, true, true, false, false, false, false, false, false, false, false, false, false, false, false, false] rfl rfl (by kernel_rfl) (fun _ _ _ h => h) (Or.inl ⟨by rfl, ?_⟩) ?_ ?_
            rotate_left
            · intro w'
              go_simp
              with_reducible rfl
            rotate_left
            · simp only [Act.put, List.setIfInBounds_toArray, List.set_cons_zero, List.set_cons_succ, i64_w, i32_w]
              rfl
            refine pure_ (i := 3) (N := (some 50)) (v := ?_) (a' := ?_) #[true, true, true, true, false, false, false, false, false, false, false, false, false, false, false, false] rfl rfl (by kernel_rfl) (fun _ _ _ h => h) (Or.inl ⟨by rfl, ?_⟩) ?_ ?_
            rotate_left
            · intro w'
              go_simp
              with_reducible rfl
            rotate_left
            · simp only [Act.put, List.setIfInBounds_toArray, List.set_cons_zero, List.set_cons_succ, i64_w, i32_w]
              rfl
            refine pure_ (i := 6) (N := (some 53)) (v := ?_) (a' := ?_) #[true, true, true, true, false, false, true, false, false, false, false, false, false, false, false, false] rfl rfl (by kernel_rfl) (fun _ _ _ h => h) (Or.inl ⟨by rfl, ?_⟩) ?_ ?_
            rotate_left
            · intro w'
              go_simp
              with_reducible rfl
            rotate_left
            · simp only [Act.put, List.setIfInBounds_toArray, List.set_cons_zero, List.set_cons_succ, i64_w, i32_w]
              rfl
            refine take_ (i := 7) (N := (some 54)) (v := .string (strOfNums (datas f1))) (a' := ?_) #[true, true, true, true, false, false, true, true, false, false, false, false, false, false, false, false] rfl rfl (by kernel_rfl) (fun _ _ _ h => h) (Or.inl ⟨by rfl, (fun w' s0 => by have hcv := seen_string s0; go_simp)⟩) hHeld ?_ ?_
            rotate_left
            · simp only [Act.put, List.setIfInBounds_toArray, List.set_cons_zero, List.set_cons_succ, i64_w, i32_w]
              rfl
            refine one_ (i := 4) (N := (some 51)) #[true, true, true, true, true, false, true, true, false, false, false, false, false, false, false, false] rfl rfl (by kernel_rfl) (by decide) (fun K hK => ?_)
            refine goes_ Try.func13 (by kernel_rfl) rfl #[.pointer (some ⟨q, 0, none⟩)] (by rfl) rfl rfl (by (try simp only [List.map_toArray, List.map_cons, List.map_nil]); first | done | rfl) ?_
            refine (whole_rests H9.out R6.out U6.out.down).mono ?_
            rintro e w10 ⟨Av, cv, rfl, hw10, h10, b10⟩
            have hse := hw10 (fun _ => False) (fun _ h => h.elim)
            have H10 := Fact.mk h10
            replace hHeld := hHeld.step (Only.of_below b10 (RS L q))
            clear hw10 h10 b10 H9
            clear W9
            refine ⟨_, rfl, ?_⟩
            refine hK.out _ _ hHeld (fun hxx => ?_)
            clear hK K hxx
            refine norm_ (a' := ?_) ?_ ?_
            rotate_left
            · show Act.put _ (some 51) _ = _
              simp only [Act.put, List.setIfInBounds_toArray, List.set_cons_zero, List.set_cons_succ, i64_w, i32_w]
              rfl
            refine one_ (i := 5) (N := (some 52)) #[true, true, true, true, true, true, true, true, false, false, false, false, false, false, false, false] rfl rfl (by kernel_rfl) (by decide) (fun K hK => ?_)
            refine value_ (v := .string (strOfNums (datas f1))) (w1 := w10) (by rfl) rfl (by have hcv := seen_string hse; go_simp) ?_
            refine hK.out _ _ hHeld (fun hxx => ?_)
            clear hK K hxx
            refine norm_ (a' := ?_) ?_ ?_
            rotate_left
            · show Act.put _ (some 52) _ = _
              simp only [Act.put, List.setIfInBounds_toArray, List.set_cons_zero, List.set_cons_succ, i64_w, i32_w]
              rfl
            refine pure_ (i := 8) (N := (some 55)) (v := ?_) (a' := ?_) #[true, true, true, true, true, true, true, true, true, false, false, false, false, false, false, false] rfl rfl (by kernel_rfl) (fun _ _ _ h => h) (Or.inl ⟨by rfl, ?_⟩) ?_ ?_
            rotate_left
            · intro w'
              go_simp
              with_reducible rfl
            rotate_left
            · simp only [Act.put, List.setIfInBounds_toArray, List.set_cons_zero, List.set_cons_succ, i64_w, i32_w]
              rfl
            refine pure_ (i := 9) (N := (some 56)) (v := ?_) (a' := ?_) #[true, true, true, true, true, true, true, true, true, true, false, false, false, false, false, false] rfl rfl (by kernel_rfl) (fun _ _ _ h => h) (Or.inl ⟨by rfl, ?_⟩) ?_ ?_
            rotate_left
            · intro w'
              go_simp
              with_reducible rfl
            rotate_left
            · simp only [Act.put, List.setIfInBounds_toArray, List.set_cons_zero, List.set_cons_succ, i64_w, i32_w]
              rfl
            refine pure_ (i := 10) (N := (some 57)) (v := ?_) (a' := ?_) #[true, true, true, true, true, true, true, true, true, true, true, false, false, false, false, false] rfl rfl (by kernel_rfl) (fun _ _ _ h => h) (Or.inl ⟨by rfl, ?_⟩) ?_ ?_
            rotate_left
            · intro w'
              go_simp
              with_reducible rfl
            rotate_left
            · simp only [Act.put, List.setIfInBounds_toArray, List.set_cons_zero, List.set_cons_succ, i64_w, i32_w]
              rfl
            refine pure_ (i := 11) (N := (some 58)) (v := ?_) (a' := ?_) #[true, true, true, true, true, true, true, true, true, true, true, true, false, false, false, false] rfl rfl (by kernel_rfl) (fun _ _ _ h => h) (Or.inl ⟨by rfl, ?_⟩) ?_ ?_
            rotate_left
            · intro w'
              go_simp
              with_reducible rfl
            rotate_left
            · simp only [Act.put, List.setIfInBounds_toArray, List.set_cons_zero, List.set_cons_succ, i64_w, i32_w]
              rfl
            refine one_ (i := 12) (N := (some 59)) #[true, true, true, true, true, true, true, true, true, true, true, true, true, false, false, false] rfl rfl (by kernel_rfl) (by decide) (fun K hK => ?_)
            refine goes_ Try.func18 (by kernel_rfl) rfl #[.pointer (some ⟨L.p, 0, none⟩)] (by rfl) rfl rfl (by (try simp only [List.map_toArray, List.map_cons, List.map_nil]); first | done | rfl) ?_
            refine (Pending_none H10.out.disk R6.out.set).mono ?_
            rintro e w11 ⟨Ap, cp, rfl, b11⟩
            have I1 : Fact (∃ D f, Rests 120 f D ∧ D.Up ∧ Jr w w11 L D q false ∧ ∃ Ax cx, Value.slice Aw 1280 cw = .slice Ax 1280 cx ∧ Sees (RS L q) w11 ⟨Ax, 1280, cx⟩ (datas f)) := ⟨_, _, R6.out, U6.out, H10.out.step b11, _, _, rfl, hHeld.step (Only.of_below b11 _)⟩
            replace hHeld := hHeld.step (Only.of_below b11 (RS L q))
            clear b11 H10 hse
            clear w10
            refine ⟨_, rfl, ?_⟩
            refine hK.out _ _ hHeld (fun hxx => ?_)
            clear hK K hxx
            refine norm_ (a' := ?_) ?_ ?_
            rotate_left
            · show Act.put _ (some 59) _ = _
              simp only [Act.put, List.setIfInBounds_toArray, List.set_cons_zero, List.set_cons_succ, i64_w, i32_w]
              rfl
            refine pure_ (i := 13) (N := (some 60)) (v := ?_) (a' := ?_) #[true, true, true, true, true, true, true, true, true, true, true, true, true, true, false, false] rfl rfl (by kernel_rfl) (fun _ _ _ h => h) (Or.inl ⟨by rfl, ?_⟩) ?_ ?_
            rotate_left
            · intro w'
              go_simp
              with_reducible rfl
            rotate_left
            · simp only [Act.put, List.setIfInBounds_toArray, List.set_cons_zero, List.set_cons_succ, i64_w, i32_w]
              rfl
            refine pure_ (i := 14) (N := (some 61)) (v := ?_) (a' := ?_) #[true, true, true, true, true, true, true, true, true, true, true, true, true, true, true, false] rfl rfl (by kernel_rfl) (fun _ _ _ h => h) (Or.inl ⟨by rfl, ?_⟩) ?_ ?_
            rotate_left
            · intro w'
              go_simp
              with_reducible rfl
            rotate_left
            · simp only [Act.put, List.setIfInBounds_toArray, List.set_cons_zero, List.set_cons_succ, i64_w, i32_w]
              rfl
            refine pure_ (i := 15) (N := (some 62)) (v := ?_) (a' := ?_) #[true, true, true, true, true, true, true, true, true, true, true, true, true, true, true, true] rfl rfl (by kernel_rfl) (fun _ _ _ h => h) (Or.inl ⟨by rfl, ?_⟩) ?_ ?_
            rotate_left
            · intro w'
              go_simp
              with_reducible rfl
            rotate_left
            · simp only [Act.put, List.setIfInBounds_toArray, List.set_cons_zero, List.set_cons_succ, i64_w, i32_w]
              rfl
            refine done_ (by kernel_rfl) ?_
            go_wp2_with fail
            exact ⟨⟨j + 1, by go_num, by omega, I1⟩, by simp [intOf]; omega⟩
          · have hdn := done_any (w := w6) (S := fun _ => False) Aw cw (datas f) (by have := W6.out.reads w6 (Only.refl _ _); exact this) Aj cj a ((args_of HC.out (fun _ h => h.elim)).step (Only.of_below H6.out.below _)) (by rw [datas_length HR.out]; decide) (by rw [datas_length HR.out]; decide) (fun x hx => by rw [datas_length HR.out]; exact ⟨(hj1.fit x hx).1, by have := (hj1.fit x hx).2.1; omega, (hj1.fit x hx).2.2⟩)
            rw [datas_length HR.out, datas_done hj1 HR.out] at hdn
            have HDn := Fact.mk hdn
            clear hdn hj1
            go_wp2_with fail
            refine HDn.out.mono ?_
            rintro e w7 ⟨v, rfl, hv, b7⟩
            obtain ⟨Ad, cd, rfl, -, -⟩ := Kd.R_reads hv
            rw [datas_length R6.out] at hv ⊢
            have hs7 : Sees (RS L q) w7 ⟨Ad, 1280, cd⟩ (datas (wrote (ats a) f)) := Sees.of_own hv (fun k hk hs => by have := H6.out.lt k hs; omega)
            have W7 := Fact.mk hs7
            have H7 := Fact.mk (H6.out.step b7)
            clear hs7 hv b7 H6 W6 HDn
            go_wp2_with fail
            skip
            refine start_ (n := 16) (S := fun w' => Sees (RS L q) w' ⟨Ad, 1280, cd⟩ (datas (wrote (ats a) f))) (ds := []) #[false, false, false, false, false, false, false, false, false, false, false, false, false, false, false, false] (by kernel_rfl) rfl rfl (W7.out.step ((Only.refl _ _).drew)) (fun hHeld => ?_)
            have H9 : Fact (Jr w w7.drew L D1 q false) := ⟨H7.out.step ((Below.refl _ _).drew)⟩
            clear H7 W7
            generalize w7.drew = W9 at *
            refine pure_ (i := 0) (N := (some 47)) (v := ?_) (a' := ?_) #[true, false, false, false, false, false, false, false, false, false, false, false, false, false, false, false] rfl rfl (by kernel_rfl) (fun _ _ _ h => h) (Or.inl ⟨by rfl, ?_⟩) ?_ ?_
            rotate_left
            · intro w'
              go_simp
              with_reducible rfl
            rotate_left
            · simp only [Act.put, List.setIfInBounds_toArray, List.set_cons_zero, List.set_cons_succ, i64_w, i32_w]
              rfl
            refine one_ (i := 1) (N := (some 48)) #[true, true, false, false, false, false, false, false, false, false, false, false, false, false, false, false] rfl rfl (by kernel_rfl) (by decide) (fun K hK => ?_)
            refine goes_ Try.func17 (by kernel_rfl) rfl #[.pointer (some ⟨q, 0, none⟩)] (by rfl) rfl rfl (by (try simp only [List.map_toArray, List.map_cons, List.map_nil]); first | done | rfl) ?_
            refine (Broken_any H9.out.redo).mono ?_
            rintro e w10 ⟨rfl, rfl⟩
            refine ⟨_, rfl, ?_⟩
            refine hK.out _ _ hHeld (fun hxx => ?_)
            clear hK K hxx
            refine norm_ (a' := ?_) ?_ ?_
            rotate_left
            · show Act.put _ (some 48) _ = _
              simp only [Act.put, List.setIfInBounds_toArray, List.set_cons_zero, List.set_cons_succ, i64_w, i32_w]
              rfl
            refine pure_ (i := 2) (N := (some 49)) (v := ?_) (a' := ?_) #[true, true, true, false, false, false, false, false, false, false, false, false, false, false, false, false] rfl rfl (by kernel_rfl) (fun _ _ _ h => h) (Or.inl ⟨by rfl, ?_⟩) ?_ ?_
            rotate_left
            · intro w'
              go_simp
              with_reducible rfl
            rotate_left
            · simp only [Act.put, List.setIfInBounds_toArray, List.set_cons_zero, List.set_cons_succ, i64_w, i32_w]
              rfl
            refine pure_ (i := 3) (N := (some 50)) (v := ?_) (a' := ?_) #[true, true, true, true, false, false, false, false, false, false, false, false, false, false, false, false] rfl rfl (by kernel_rfl) (fun _ _ _ h => h) (Or.inl ⟨by rfl, ?_⟩) ?_ ?_
            rotate_left
            · intro w'
              go_simp
              with_reducible rfl
            rotate_left
            · simp only [Act.put, List.setIfInBounds_toArray, List.set_cons_zero, List.set_cons_succ, i64_w, i32_w]
              rfl
            refine pure_ (i := 6) (N := (some 53)) (v := ?_) (a' := ?_) #[true, true, true, true, false, false, true, false, false, false, false, false, false, false, false, false] rfl rfl (by kernel_rfl) (fun _ _ _ h => h) (Or.inl ⟨by rfl, ?_⟩) ?_ ?_
            rotate_left
            · intro w'
              go_simp
              with_reducible rfl
            rotate_left
            · simp only [Act.put, List.setIfInBounds_toArray, List.set_cons_zero, List.set_cons_succ, i64_w, i32_w]
              rfl
            refine take_ (i := 7) (N := (some 54)) (v := .string (strOfNums (datas (wrote (ats a) f)))) (a' := ?_) #[true, true, true, true, false, false, true, true, false, false, false, false, false, false, false, false] rfl rfl (by kernel_rfl) (fun _ _ _ h => h) (Or.inl ⟨by rfl, (fun w' s0 => by have hcv := seen_string s0; go_simp)⟩) hHeld ?_ ?_
            rotate_left
            · simp only [Act.put, List.setIfInBounds_toArray, List.set_cons_zero, List.set_cons_succ, i64_w, i32_w]
              rfl
            refine one_ (i := 4) (N := (some 51)) #[true, true, true, true, true, false, true, true, false, false, false, false, false, false, false, false] rfl rfl (by kernel_rfl) (by decide) (fun K hK => ?_)
            refine goes_ Try.func13 (by kernel_rfl) rfl #[.pointer (some ⟨q, 0, none⟩)] (by rfl) rfl rfl (by (try simp only [List.map_toArray, List.map_cons, List.map_nil]); first | done | rfl) ?_
            refine (whole_rests H9.out R6.out U6.out.down).mono ?_
            rintro e w10 ⟨Av, cv, rfl, hw10, h10, b10⟩
            have hse := hw10 (fun _ => False) (fun _ h => h.elim)
            have H10 := Fact.mk h10
            replace hHeld := hHeld.step (Only.of_below b10 (RS L q))
            clear hw10 h10 b10 H9
            clear W9
            refine ⟨_, rfl, ?_⟩
            refine hK.out _ _ hHeld (fun hxx => ?_)
            clear hK K hxx
            refine norm_ (a' := ?_) ?_ ?_
            rotate_left
            · show Act.put _ (some 51) _ = _
              simp only [Act.put, List.setIfInBounds_toArray, List.set_cons_zero, List.set_cons_succ, i64_w, i32_w]
              rfl
            refine one_ (i := 5) (N := (some 52)) #[true, true, true, true, true, true, true, true, false, false, false, false, false, false, false, false] rfl rfl (by kernel_rfl) (by decide) (fun K hK => ?_)
            refine value_ (v := .string (strOfNums (datas (wrote (ats a) f)))) (w1 := w10) (by rfl) rfl (by have hcv := seen_string hse; go_simp) ?_
            refine hK.out _ _ hHeld (fun hxx => ?_)
            clear hK K hxx
            refine norm_ (a' := ?_) ?_ ?_
            rotate_left
            · show Act.put _ (some 52) _ = _
              simp only [Act.put, List.setIfInBounds_toArray, List.set_cons_zero, List.set_cons_succ, i64_w, i32_w]
              rfl
            refine pure_ (i := 8) (N := (some 55)) (v := ?_) (a' := ?_) #[true, true, true, true, true, true, true, true, true, false, false, false, false, false, false, false] rfl rfl (by kernel_rfl) (fun _ _ _ h => h) (Or.inl ⟨by rfl, ?_⟩) ?_ ?_
            rotate_left
            · intro w'
              go_simp
              with_reducible rfl
            rotate_left
            · simp only [Act.put, List.setIfInBounds_toArray, List.set_cons_zero, List.set_cons_succ, i64_w, i32_w]
              rfl
            refine pure_ (i := 9) (N := (some 56)) (v := ?_) (a' := ?_) #[true, true, true, true, true, true, true, true, true, true, false, false, false, false, false, false] rfl rfl (by kernel_rfl) (fun _ _ _ h => h) (Or.inl ⟨by rfl, ?_⟩) ?_ ?_
            rotate_left
            · intro w'
              go_simp
              with_reducible rfl
            rotate_left
            · simp only [Act.put, List.setIfInBounds_toArray, List.set_cons_zero, List.set_cons_succ, i64_w, i32_w]
              rfl
            refine pure_ (i := 10) (N := (some 57)) (v := ?_) (a' := ?_) #[true, true, true, true, true, true, true, true, true, true, true, false, false, false, false, false] rfl rfl (by kernel_rfl) (fun _ _ _ h => h) (Or.inl ⟨by rfl, ?_⟩) ?_ ?_
            rotate_left
            · intro w'
              go_simp
              with_reducible rfl
            rotate_left
            · simp only [Act.put, List.setIfInBounds_toArray, List.set_cons_zero, List.set_cons_succ, i64_w, i32_w]
              rfl
            refine pure_ (i := 11) (N := (some 58)) (v := ?_) (a' := ?_) #[true, true, true, true, true, true, true, true, true, true, true, true, false, false, false, false] rfl rfl (by kernel_rfl) (fun _ _ _ h => h) (Or.inl ⟨by rfl, ?_⟩) ?_ ?_
            rotate_left
            · intro w'
              go_simp
              with_reducible rfl
            rotate_left
            · simp only [Act.put, List.setIfInBounds_toArray, List.set_cons_zero, List.set_cons_succ, i64_w, i32_w]
              rfl
            refine one_ (i := 12) (N := (some 59)) #[true, true, true, true, true, true, true, true, true, true, true, true, true, false, false, false] rfl rfl (by kernel_rfl) (by decide) (fun K hK => ?_)
            refine goes_ Try.func18 (by kernel_rfl) rfl #[.pointer (some ⟨L.p, 0, none⟩)] (by rfl) rfl rfl (by (try simp only [List.map_toArray, List.map_cons, List.map_nil]); first | done | rfl) ?_
            refine (Pending_none H10.out.disk R6.out.set).mono ?_
            rintro e w11 ⟨Ap, cp, rfl, b11⟩
            have I1 : Fact (∃ D f, Rests 120 f D ∧ D.Up ∧ Jr w w11 L D q false ∧ ∃ Ax cx, Value.slice Ad 1280 cd = .slice Ax 1280 cx ∧ Sees (RS L q) w11 ⟨Ax, 1280, cx⟩ (datas f)) := ⟨_, _, R6.out, U6.out, H10.out.step b11, _, _, rfl, hHeld.step (Only.of_below b11 _)⟩
            replace hHeld := hHeld.step (Only.of_below b11 (RS L q))
            clear b11 H10 hse
            clear w10
            refine ⟨_, rfl, ?_⟩
            refine hK.out _ _ hHeld (fun hxx => ?_)
            clear hK K hxx
            refine norm_ (a' := ?_) ?_ ?_
            rotate_left
            · show Act.put _ (some 59) _ = _
              simp only [Act.put, List.setIfInBounds_toArray, List.set_cons_zero, List.set_cons_succ, i64_w, i32_w]
              rfl
            refine pure_ (i := 13) (N := (some 60)) (v := ?_) (a' := ?_) #[true, true, true, true, true, true, true, true, true, true, true, true, true, true, false, false] rfl rfl (by kernel_rfl) (fun _ _ _ h => h) (Or.inl ⟨by rfl, ?_⟩) ?_ ?_
            rotate_left
            · intro w'
              go_simp
              with_reducible rfl
            rotate_left
            · simp only [Act.put, List.setIfInBounds_toArray, List.set_cons_zero, List.set_cons_succ, i64_w, i32_w]
              rfl
            refine pure_ (i := 14) (N := (some 61)) (v := ?_) (a' := ?_) #[true, true, true, true, true, true, true, true, true, true, true, true, true, true, true, false] rfl rfl (by kernel_rfl) (fun _ _ _ h => h) (Or.inl ⟨by rfl, ?_⟩) ?_ ?_
            rotate_left
            · intro w'
              go_simp
              with_reducible rfl
            rotate_left
            · simp only [Act.put, List.setIfInBounds_toArray, List.set_cons_zero, List.set_cons_succ, i64_w, i32_w]
              rfl
            refine pure_ (i := 15) (N := (some 62)) (v := ?_) (a' := ?_) #[true, true, true, true, true, true, true, true, true, true, true, true, true, true, true, true] rfl rfl (by kernel_rfl) (fun _ _ _ h => h) (Or.inl ⟨by rfl, ?_⟩) ?_ ?_
            rotate_left
            · intro w'
              go_simp
              with_reducible rfl
            rotate_left
            · simp only [Act.put, List.setIfInBounds_toArray, List.set_cons_zero, List.set_cons_succ, i64_w, i32_w]
              rfl
            refine done_ (by kernel_rfl) ?_
            go_wp2_with fail
            exact ⟨⟨j + 1, by go_num, by omega, I1⟩, by simp [intOf]; omega⟩
      · have he : j = l.length := by omega
        subst he
        have hlt2 : ¬ ((l.length : Int) < (l.length : Int)) := by omega
        go_wp2_with fail
        refine (Open_law HJ.out (by rw [HR.out.size]; decide) HR.out.lows (open_rests HR.out (by decide) HU.out.down)).mono ?_
        rintro e w7 ⟨q', rfl, -, h7, o7⟩
        have H7 := Fact.mk h7
        have W7 := Fact.mk (HW.out.step o7)
        clear h7 o7 HJ HW
        go_wp2_with fail
        skip
        refine start_ (n := 15) (S := fun w' => Sees (RS L q) w' ⟨Aw, 1280, cw⟩ (datas f)) (ds := []) #[false, false, false, false, false, false, false, false, false, false, false, false, false, false, false] (by kernel_rfl) rfl rfl (W7.out.step ((Only.refl _ _).drew)) (fun hHeld => ?_)
        have H9 : Fact (Jr w w7.drew L D q' false) := ⟨H7.out.step ((Below.refl _ _).drew)⟩
        clear H7 W7
        generalize w7.drew = W9 at *
        refine pure_ (i := 0) (N := (some 69)) (v := ?_) (a' := ?_) #[true, false, false, false, false, false, false, false, false, false, false, false, false, false, false] rfl rfl (by kernel_rfl) (fun _ _ _ h => h) (Or.inl ⟨by rfl, ?_⟩) ?_ ?_
        rotate_left
        · intro w'
          go_simp
          with_reducible rfl
        rotate_left
        · simp only [Act.put, List.setIfInBounds_toArray, List.set_cons_zero, List.set_cons_succ, i64_w, i32_w]
          rfl
        refine pure_ (i := 1) (N := (some 70)) (v := ?_) (a' := ?_) #[true, true, false, false, false, false, false, false, false, false, false, false, false, false, false] rfl rfl (by kernel_rfl) (fun _ _ _ h => h) (Or.inl ⟨by rfl, ?_⟩) ?_ ?_
        rotate_left
        · intro w'
          go_simp
          with_reducible rfl
        rotate_left
        · simp only [Act.put, List.setIfInBounds_toArray, List.set_cons_zero, List.set_cons_succ, i64_w, i32_w]
          rfl
        refine pure_ (i := 2) (N := (some 71)) (v := ?_) (a' := ?_) #[true, true, true, false, false, false, false, false, false, false, false, false, false, false, false] rfl rfl (by kernel_rfl) (fun _ _ _ h => h) (Or.inl ⟨by rfl, ?_⟩) ?_ ?_
        rotate_left
        · intro w'
          go_simp
          with_reducible rfl
        rotate_left
        · simp only [Act.put, List.setIfInBounds_toArray, List.set_cons_zero, List.set_cons_succ, i64_w, i32_w]
          rfl
        refine pure_ (i := 3) (N := (some 72)) (v := ?_) (a' := ?_) #[true, true, true, true, false, false, false, false, false, false, false, false, false, false, false] rfl rfl (by kernel_rfl) (fun _ _ _ h => h) (Or.inl ⟨by rfl, ?_⟩) ?_ ?_
        rotate_left
        · intro w'
          go_simp
          with_reducible rfl
        rotate_left
        · simp only [Act.put, List.setIfInBounds_toArray, List.set_cons_zero, List.set_cons_succ, i64_w, i32_w]
          rfl
        refine pure_ (i := 4) (N := (some 73)) (v := ?_) (a' := ?_) #[true, true, true, true, true, false, false, false, false, false, false, false, false, false, false] rfl rfl (by kernel_rfl) (fun _ _ _ h => h) (Or.inl ⟨by rfl, ?_⟩) ?_ ?_
        rotate_left
        · intro w'
          go_simp
          with_reducible rfl
        rotate_left
        · simp only [Act.put, List.setIfInBounds_toArray, List.set_cons_zero, List.set_cons_succ, i64_w, i32_w]
          rfl
        refine pure_ (i := 5) (N := (some 74)) (v := ?_) (a' := ?_) #[true, true, true, true, true, true, false, false, false, false, false, false, false, false, false] rfl rfl (by kernel_rfl) (fun _ _ _ h => h) (Or.inl ⟨by rfl, ?_⟩) ?_ ?_
        rotate_left
        · intro w'
          go_simp
          with_reducible rfl
        rotate_left
        · simp only [Act.put, List.setIfInBounds_toArray, List.set_cons_zero, List.set_cons_succ, i64_w, i32_w]
          rfl
        refine pure_ (i := 6) (N := (some 75)) (v := ?_) (a' := ?_) #[true, true, true, true, true, true, true, false, false, false, false, false, false, false, false] rfl rfl (by kernel_rfl) (fun _ _ _ h => h) (Or.inl ⟨by rfl, ?_⟩) ?_ ?_
        rotate_left
        · intro w'
          go_simp
          with_reducible rfl
        rotate_left
        · simp only [Act.put, List.setIfInBounds_toArray, List.set_cons_zero, List.set_cons_succ, i64_w, i32_w]
          rfl
        refine pure_ (i := 7) (N := (some 76)) (v := ?_) (a' := ?_) #[true, true, true, true, true, true, true, true, false, false, false, false, false, false, false] rfl rfl (by kernel_rfl) (fun _ _ _ h => h) (Or.inl ⟨by rfl, ?_⟩) ?_ ?_
        rotate_left
        · intro w'
          go_simp
          with_reducible rfl
        rotate_left
        · simp only [Act.put, List.setIfInBounds_toArray, List.set_cons_zero, List.set_cons_succ, i64_w, i32_w]
          rfl
        refine pure_ (i := 10) (N := (some 79)) (v := ?_) (a' := ?_) #[true, true, true, true, true, true, true, true, false, false, true, false, false, false, false] rfl rfl (by kernel_rfl) (fun _ _ _ h => h) (Or.inl ⟨by rfl, ?_⟩) ?_ ?_
        rotate_left
        · intro w'
          go_simp
          with_reducible rfl
        rotate_left
        · simp only [Act.put, List.setIfInBounds_toArray, List.set_cons_zero, List.set_cons_succ, i64_w, i32_w]
          rfl
        refine take_ (i := 11) (N := (some 80)) (v := .string (strOfNums (datas f))) (a' := ?_) #[true, true, true, true, true, true, true, true, false, false, true, true, false, false, false] rfl rfl (by kernel_rfl) (fun _ _ _ h => h) (Or.inl ⟨by rfl, (fun w' s0 => by have hcv := seen_string s0; go_simp)⟩) hHeld ?_ ?_
        rotate_left
        · simp only [Act.put, List.setIfInBounds_toArray, List.set_cons_zero, List.set_cons_succ, i64_w, i32_w]
          rfl
        refine one_ (i := 8) (N := (some 77)) #[true, true, true, true, true, true, true, true, true, false, true, true, false, false, false] rfl rfl (by kernel_rfl) (by decide) (fun K hK => ?_)
        refine goes_ Try.func13 (by kernel_rfl) rfl #[.pointer (some ⟨q', 0, none⟩)] (by rfl) rfl rfl (by (try simp only [List.map_toArray, List.map_cons, List.map_nil]); first | done | rfl) ?_
        refine (whole_rests H9.out HR.out HU.out.down).mono ?_
        rintro e w10 ⟨Av, cv, rfl, hw10, h10, b10⟩
        have hse := hw10 (fun _ => False) (fun _ h => h.elim)
        have H10 := Fact.mk h10
        replace hHeld := hHeld.step (Only.of_below b10 (RS L q))
        clear hw10 h10 b10 H9
        clear W9
        refine ⟨_, rfl, ?_⟩
        refine hK.out _ _ hHeld (fun hxx => ?_)
        clear hK K hxx
        refine norm_ (a' := ?_) ?_ ?_
        rotate_left
        · show Act.put _ (some 77) _ = _
          simp only [Act.put, List.setIfInBounds_toArray, List.set_cons_zero, List.set_cons_succ, i64_w, i32_w]
          rfl
        refine one_ (i := 9) (N := (some 78)) #[true, true, true, true, true, true, true, true, true, true, true, true, false, false, false] rfl rfl (by kernel_rfl) (by decide) (fun K hK => ?_)
        refine value_ (v := .string (strOfNums (datas f))) (w1 := w10) (by rfl) rfl (by have hcv := seen_string hse; go_simp) ?_
        refine hK.out _ _ hHeld (fun hxx => ?_)
        clear hK K hxx
        refine norm_ (a' := ?_) ?_ ?_
        rotate_left
        · show Act.put _ (some 78) _ = _
          simp only [Act.put, List.setIfInBounds_toArray, List.set_cons_zero, List.set_cons_succ, i64_w, i32_w]
          rfl
        refine pure_ (i := 12) (N := (some 81)) (v := ?_) (a' := ?_) #[true, true, true, true, true, true, true, true, true, true, true, true, true, false, false] rfl rfl (by kernel_rfl) (fun _ _ _ h => h) (Or.inl ⟨by rfl, ?_⟩) ?_ ?_
        rotate_left
        · intro w'
          go_simp
          with_reducible rfl
        rotate_left
        · simp only [Act.put, List.setIfInBounds_toArray, List.set_cons_zero, List.set_cons_succ, i64_w, i32_w]
          rfl
        refine pure_ (i := 13) (N := (some 82)) (v := ?_) (a' := ?_) #[true, true, true, true, true, true, true, true, true, true, true, true, true, true, false] rfl rfl (by kernel_rfl) (fun _ _ _ h => h) (Or.inl ⟨by rfl, ?_⟩) ?_ ?_
        rotate_left
        · intro w'
          go_simp
          with_reducible rfl
        rotate_left
        · simp only [Act.put, List.setIfInBounds_toArray, List.set_cons_zero, List.set_cons_succ, i64_w, i32_w]
          rfl
        refine pure_ (i := 14) (N := (some 2)) (v := ?_) (a' := ?_) #[true, true, true, true, true, true, true, true, true, true, true, true, true, true, true] rfl rfl (by kernel_rfl) (fun _ _ _ h => h) (Or.inl ⟨by rfl, ?_⟩) ?_ ?_
        rotate_left
        · intro w'
          go_simp
          with_reducible rfl
        rotate_left
        · simp only [Act.put, List.setIfInBounds_toArray, List.set_cons_zero, List.set_cons_succ, i64_w, i32_w]
          rfl
        refine done_ (by kernel_rfl) ?_
        go_wp2_with fail
        go_ret
        exact ⟨rfl, H10.out.below⟩
end Go.Proofs.Ytjpbpeiknnloeaa.Dk
