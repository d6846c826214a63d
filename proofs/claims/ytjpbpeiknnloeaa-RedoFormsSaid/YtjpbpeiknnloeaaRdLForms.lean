/-
The law RedoForms: true.
-/
import Derived.Test.YtjpbpeiknnloeaaRdLBase2
namespace Go.Proofs.Ytjpbpeiknnloeaa.Dk
open Go.RowKit Go.Maps Go.Proofs.YtjpbpeiknnloeaaW.PrintWords Go.Proofs.YtjpbpeiknnloeaaW.PrintLast Go.Proofs.YtjpbpeiknnloeaaW.PrintMore
set_option linter.unusedVariables false
set_option linter.unusedSimpArgs false

theorem C_at {w : World} {A : Option Addr} {n : Nat} {vs : List (Int × SV)} (h : Kd.C chK w A n vs) {j : Nat} {v : Int × SV} (hv : vs[j]? = some v) : ∃ ad, A = some ad ∧ w.cell? (ad.add (j * 2)) = some (.int .i64 v.1) ∧ w.cell? ⟨(ad.add (j * 2)).block, (ad.add (j * 2)).off + 1, none⟩ = some v.2.v := by
  have hj : j < vs.length := (List.getElem?_eq_some_iff.1 hv).1
  obtain ⟨ad, eA, hc⟩ := h.2.2 (by have := h.1; omega)
  obtain ⟨c, _, ⟨c0, c1, rfl, k0, k1⟩, hcc⟩ := hc j _ hv
  have k0 : c0 = [.int .i64 v.1] := k0
  have k1 : c1 = [v.2.v] := k1
  rw [k0, k1] at hcc
  have a0 := hcc 0 (.int .i64 v.1) rfl
  have a1 := hcc 1 v.2.v rfl
  rw [show chK.sz = 2 from rfl] at a0 a1
  rw [add_field _ _ 1 (by omega)] at a1
  exact ⟨ad, eA, a0, a1⟩
theorem twice_wrong {n : Int} {a : List Ch} {x : Ch} (hx : x ∈ a) : rightOf n (a ++ [x]) = false := by
  unfold rightOf
  rw [decide_eq_false_iff_not]
  rintro ⟨_, h, _⟩
  rw [List.map_append, List.nodup_append] at h
  exact h.2.2 x.1 (List.mem_map.2 ⟨x, hx, rfl⟩) x.1 (by simp) rfl
theorem none_wrong {n : Int} : rightOf n [] = false := by
  unfold rightOf
  rw [decide_eq_false_iff_not]
  rintro ⟨_, _, h, _⟩
  simp at h
theorem do_wrong {D : PD} {l : List Ch} (h : rightOf ((D.n : Int) - 100) l = false) : D.do_ false l = (10, D, false) := by
  unfold PD.do_
  rw [if_neg (by decide), if_pos h]
/-- A new row without elements. -/
theorem build_none (W : World) : (Instr.buildSlice 22 0 #[]).run Try.prog W = .ok (.slice (some ⟨W.heap.size, 0, none⟩) 0 0) (W.alloc (.cells #[] 47)) := by
  have hu := Try.underlying22
  go_simp
theorem exec_build0 {P : Program} {oi : Oper} {ρ : Operand → Value} {v : Value} {t : TypeId} {w w1 : World} (hop : oi.op = .buildSlice t 0 #[]) (h : (Instr.buildSlice t 0 #[]).run P w = .ok v w1) : (execOp ρ oi).run P w = .ok (.value v) w1 := by
  unfold execOp
  simp [hop, Sem.run_bind, h, Result.andThen]
theorem none_own (W : World) : Kd.R chK 47 (W.alloc (.cells #[] 47)) W.heap.size (fun k => W.heap.size ≤ k) (.slice (some ⟨W.heap.size, 0, none⟩) 0 0) [] :=
  ⟨fun k hk => by simp [Value.ownBlock] at hk; omega, OwnRow.lit W W.heap.size (Reps.none _ _) (Nat.le_refl _) (by simp)⟩
theorem box_reads (W : World) (v : Int × SV) : Kd.C chK (W.alloc (.cells #[.int .i64 v.1, v.2.v] 47)) (some ⟨W.heap.size, 0, none⟩) 1 [v] := by
  have hR : Kd.R chK 47 (W.alloc (.cells #[.int .i64 v.1, v.2.v] 47)) W.heap.size (fun k => W.heap.size ≤ k) (.slice (some ⟨W.heap.size, 0, none⟩) 1 1) [v] :=
    ⟨fun k hk => by simp [Value.ownBlock] at hk; omega, OwnRow.lit W W.heap.size (Reps.c2 (M_ch _ _ _ v.1 v.2) (Reps.none _ _)) (Nat.le_refl _) (by simp)⟩
  obtain ⟨A', c', e, _, h3⟩ := Kd.R_reads hR
  injection e with e1 e2 e3
  rw [e1]; exact h3
/-- What the two appends' order leaves: a row of all changes, and a row of one. -/
def Half (W : World) (vs : List (Int × SV)) (v : Int × SV) (s : Value × Value × Option Addr) (w' : World) : Prop :=
  Kd.R chK 47 w' W.heap.size (fun k => W.heap.size ≤ k) s.2.1 vs ∧ Kd.C chK w' s.2.2 1 [v] ∧ Below W.heap.size W w'
theorem move_box {w w' : World} {b : Nat} {v : Int × SV} (h : w.heap[b]? = some (.cells #[.int .i64 v.1, v.2.v] 47 (0, 0))) (h2 : w'.heap[b]? = w.heap[b]?) : Kd.C chK w' (some ⟨b, 0, none⟩) 1 [v] := by
  refine ⟨rfl, by decide, fun _ => ⟨_, rfl, fun j x hx => ?_⟩⟩
  have hj : j = 0 := by rcases j with _ | j; rfl; simp at hx
  subst hj
  obtain rfl := Option.some.inj hx
  refine ⟨[.int .i64 v.1, v.2.v], rfl, ⟨[.int .i64 v.1], [v.2.v], rfl, rfl, rfl⟩, fun i u hu => ?_⟩
  have hcell : w'.cell? ⟨b, i, none⟩ = some u := by
    rw [cell_of_row _ _ _ _ _ _ (h2.trans h)]
    rcases i with _ | _ | i
    · simpa using hu
    · simpa using hu
    · simp at hu
  rw [Addr.add_mid]
  simpa using hcell
set_option maxHeartbeats 8000000 in
set_option maxRecDepth 1000000 in
theorem RedoForms_true (w : World) (A : Option Addr) (ca : Nat) (a : List Ch) (hA : Kd.C inK w A a.length a) (hca : a.length ≤ ca) {pa : Prop} (_ : pa) (t : Int) (ht : (Lit.int .i64 t).wf = true) :
    Calls Try.prog 6 #[.slice A a.length ca, .int .i64 t] w fun e w' => e = .returned (.bool true) ∧ Below w.heap.size w w' := by
  have HA := Fact.mk hA
  clear hA
  go_enter Try.func6, Try.ntmps6
  go_wp2_with fail
  refine (anchor_true w).mono ?_
  rintro e w1 ⟨rfl, b1⟩
  have B1 := Fact.mk b1
  clear b1
  go_wp2_with fail
  refine (small_one B1.out HA.out ca).mono ?_
  rintro e w2 ⟨bs, rfl, hsm, b2⟩
  have B2 := Fact.mk b2
  clear b2 B1
  cases bs with
  | false =>
    clear hsm
    go_wp2_with fail
    go_ret
    exact ⟨rfl, B2.out⟩
  | true =>
    have h100 := hsm rfl
    clear hsm
    by_cases ht1 : t < 0
    · go_wp2_with fail
      go_ret
      exact ⟨rfl, B2.out⟩
    · obtain ⟨m, rfl⟩ := Int.eq_ofNat_of_zero_le (show 0 ≤ t by omega)
      have HTop := Fact.mk (wf_top ht)
      clear ht
      go_wp2_with fail
      refine (New_law w B2.out (n := 120) (by omega) (by omega)).mono ?_
      rintro e w3 ⟨L, rfl, h3⟩
      have H3 := Fact.mk h3
      clear h3 B2
      go_wp2_with fail
      refine (Open_first H3.out (by decide) new_rests.lows (open_rests new_rests (by decide) rfl)).mono ?_
      rintro e w4 ⟨q, rfl, h4⟩
      have H4 := Fact.mk h4
      clear h4 H3
      have RA := Fact.mk (new_rests.arm (k := 0) (by decide))
      by_cases hpos : (0 : Int) < (a.length : Int)
      · obtain ⟨vs, hvl, hC, hS⟩ := args_of (S := RS L q) HA.out H4.out.new
        have HC := Fact.mk hC
        have HS := Fact.mk hS
        have HVl := Fact.mk hvl
        have hne : ¬ a = [] := by rintro rfl; simp at hpos
        have hk : m % a.length < a.length := Nat.mod_lt _ (by omega)
        obtain ⟨k, hkk⟩ : ∃ k, m % a.length = k := ⟨_, rfl⟩
        rw [hkk] at hk
        obtain ⟨v, hv⟩ : ∃ v, vs[k]? = some v := ⟨_, List.getElem?_eq_getElem (by omega)⟩
        obtain ⟨ad, hAd, c0, c1⟩ := C_at (hC w4 (Only.of_below H4.out.below _)) hv
        subst hAd
        have HV := Fact.mk hv
        clear hC hS hvl hv
        go_wp2_with fail
        skip
        refine start_ (n := 13) (S := fun w' => Below w4.heap.size w4 w') (ds := [11]) #[false, false, false, false, false, false, false, false, false, false, false, false, false] (by kernel_rfl) rfl rfl ((Below.refl _ _).drew) (fun hHeld => ?_)
        have H5 : Fact (Jr w w4.drew L (PD.new 120) q false) := ⟨H4.out.step ((Below.refl _ _).drew)⟩
        have hb4 : w4.drew.heap.size = w4.heap.size := rfl
        have HC5 : Fact (∀ w', Below w4.drew.heap.size w4.drew w' → Kd.C chK w' (some ad) a.length vs) := ⟨fun w' hb => by
          have h := HC.out w' (Only.of_below (next_new H5.out.below hb) _)
          rwa [HVl.out] at h⟩
        obtain ⟨x, sx⟩ := v
        obtain ⟨sA, sn, sc⟩ := sx
        dsimp only [SV.v] at c0 c1
        refine pure_ (i := 1) (N := (some 35)) (v := ?_) (a' := ?_) #[false, true, false, false, false, false, false, false, false, false, false, false, false] rfl rfl (by kernel_rfl) (fun _ _ _ h => h) (Or.inl ⟨by rfl, ?_⟩) ?_ ?_
        rotate_left
        · intro w'
          go_simp
          with_reducible rfl
        rotate_left
        · simp only [Act.put, List.setIfInBounds_toArray, List.set_cons_zero, List.set_cons_succ, i64_w, i32_w]
          rfl
        refine pure_ (i := 3) (N := (some 37)) (v := ?_) (a' := ?_) #[false, true, false, true, false, false, false, false, false, false, false, false, false] rfl rfl (by kernel_rfl) (fun _ _ _ h => h) (Or.inl ⟨by rfl, ?_⟩) ?_ ?_
        rotate_left
        · intro w'
          go_simp
          with_reducible rfl
        rotate_left
        · simp only [Act.put, List.setIfInBounds_toArray, List.set_cons_zero, List.set_cons_succ, i64_w, i32_w]
          rfl
        refine pure_ (i := 4) (N := (some 38)) (v := ?_) (a' := ?_) #[false, true, false, true, true, false, false, false, false, false, false, false, false] rfl rfl (by kernel_rfl) (fun _ _ _ h => h) (Or.inl ⟨by rfl, ?_⟩) ?_ ?_
        rotate_left
        · intro w'
          go_simp
          with_reducible rfl
        rotate_left
        · simp only [Act.put, List.setIfInBounds_toArray, List.set_cons_zero, List.set_cons_succ, i64_w, i32_w]
          rfl
        refine pure_ (i := 5) (N := (some 39)) (v := ?_) (a' := ?_) #[false, true, false, true, true, true, false, false, false, false, false, false, false] rfl rfl (by kernel_rfl) (fun _ _ _ h => h) (Or.inl ⟨by rfl, ?_⟩) ?_ ?_
        rotate_left
        · intro w'
          go_simp
          with_reducible rfl
        rotate_left
        · simp only [Act.put, List.setIfInBounds_toArray, List.set_cons_zero, List.set_cons_succ, i64_w, i32_w]
          rfl
        refine pure_ (i := 6) (N := (some 40)) (v := ?_) (a' := ?_) #[false, true, false, true, true, true, true, false, false, false, false, false, false] rfl rfl (by kernel_rfl) (fun _ _ _ h => h) (Or.inl ⟨by rfl, ?_⟩) ?_ ?_
        rotate_left
        · intro w'
          go_simp
          with_reducible rfl
        rotate_left
        · simp only [Act.put, List.setIfInBounds_toArray, List.set_cons_zero, List.set_cons_succ, i64_w, i32_w]
          rfl
        refine pure_ (i := 7) (N := (some 41)) (v := .int .i64 (k : Int)) (a' := ?_) #[false, true, false, true, true, true, true, true, false, false, false, false, false] rfl rfl (by kernel_rfl) (fun _ _ _ h => h) (Or.inl ⟨by rfl, (fun w' => by go_simp; rw [← Int.ofNat_tmod, hkk])⟩) ?_ ?_
        rotate_left
        · simp only [Act.put, List.setIfInBounds_toArray, List.set_cons_zero, List.set_cons_succ, i64_w, i32_w]
          rfl
        refine pure_ (i := 8) (N := (some 42)) (v := .pointer (some (ad.add (k * 2)))) (a' := ?_) #[false, true, false, true, true, true, true, true, true, false, false, false, false] rfl rfl (by kernel_rfl) (fun _ _ _ h => h) (Or.inl ⟨by rfl, (fun w' => by go_simp)⟩) ?_ ?_
        rotate_left
        · simp only [Act.put, List.setIfInBounds_toArray, List.set_cons_zero, List.set_cons_succ, i64_w, i32_w]
          rfl
        refine take_ (i := 9) (N := (some 43)) (v := .agg #[.int .i64 x, .slice sA sn sc]) (a' := ?_) #[false, true, false, true, true, true, true, true, true, true, false, false, false] rfl rfl (by kernel_rfl) (fun _ _ _ h => h) (Or.inl ⟨by rfl, (fun w' s0 => by have e0 := pw_cell_below s0 c0; have e1 := pw_cell_below s0 c1; go_simp)⟩) hHeld ?_ ?_
        rotate_left
        · simp only [Act.put, List.setIfInBounds_toArray, List.set_cons_zero, List.set_cons_succ, i64_w, i32_w]
          rfl
        generalize hW : w4.drew = W at *
        clear hW
        refine join_ (σ := Value × Value × Option Addr) 2 #[true, true, true, true, true, true, true, true, true, true, true, false, false] (fun s => [(34, s.1), (36, s.2.1), (44, .slice s.2.2 1 1)]) (Half W vs (x, ⟨sA, sn, sc⟩)) ?_ ?_
        · rintro ⟨v34, v36, A44⟩ w6 ⟨hR6, hC6, hB6⟩
          dsimp only at hR6 hC6
          have H6 : Fact (Jr w w6 L (PD.new 120) q false) := ⟨H5.out.step hB6⟩
          have hrow : Fact (∀ w', Below W.heap.size W w' → ∀ v45, Kd.R chK 47 w' W.heap.size (fun k => W.heap.size ≤ k) v45 (vs ++ [(x, ⟨sA, sn, sc⟩)]) → ∃ A45 c45 l2, v45 = .slice A45 l2.length c45 ∧ Chs (RS L q) w' A45 l2 ∧ rightOf ((((PD.new 120).arm 0).n : Int) - 100) l2 = false) := ⟨fun w' hb v45 h => by
            obtain ⟨A45, c45, rfl⟩ := Kd.R_slice h
            have hlen : (vs ++ [((x, ⟨sA, sn, sc⟩) : Int × SV)]).length = (a ++ [a.getD k (0, [])]).length := by simp [HVl.out]
            rw [hlen] at h ⊢
            refine ⟨A45, c45, _, rfl, ?_, twice_wrong (x := a.getD k (0, [])) (a := a) (by rw [List.getD_eq_getElem?_getD, List.getElem?_eq_getElem hk]; exact List.getElem_mem hk)⟩
            refine Chs.of_own h (fun k hk hs => by have := H5.out.lt k hs; omega) hlen (fun j v y hv hy => ?_)
            have hst : Only (RS L q) w w' := Only.of_below (next_new H5.out.below hb) _
            rcases Nat.lt_trichotomy j vs.length with hj | hj | hj
            · rw [List.getElem?_append_left hj] at hv
              rw [List.getElem?_append_left (by rw [← HVl.out]; exact hj)] at hy
              obtain ⟨e1, e2⟩ := HS.out j v y hv hy
              exact ⟨e1, e2.step hst⟩
            · rw [List.getElem?_append_right (by omega), hj, Nat.sub_self] at hv
              rw [List.getElem?_append_right (by rw [← HVl.out]; omega), hj, HVl.out, Nat.sub_self] at hy
              obtain rfl := Option.some.inj hv
              obtain rfl := Option.some.inj hy
              have hak : a[k]? = some (a.getD k (0, [])) := by rw [List.getD_eq_getElem?_getD, List.getElem?_eq_getElem hk]; rfl
              obtain ⟨e1, e2⟩ := HS.out k _ _ HV.out hak
              exact ⟨e1, e2.step hst⟩
            · rw [List.getElem?_eq_none (by simp; omega)] at hv; cases hv⟩
          refine norm_ (a' := ?_) ?_ ?_
          rotate_left
          · simp only [putAll, Act.put, List.setIfInBounds_toArray, List.set_cons_zero, List.set_cons_succ]
            rfl
          skip
          refine last_ (i := 11) (N := (some 45)) #[true, true, true, true, true, true, true, true, true, true, true, true, false] rfl rfl (by kernel_rfl) (by decide) (fun K hK => ?_)
          refine Kd.R_append_rows_step chK (w0 := W) W.heap.size (by rfl) (.tmp 36) (.tmp 44) 22 47 (.agg #[.int .i64 0, .slice none 0 0]) 32 rfl Try.underlying22 info_ch rfl (by decide) (by decide) v36 vs [(x, ⟨sA, sn, sc⟩)] A44 1 1 (fun k => W.heap.size ≤ k) (fun _ => False) rfl rfl ?aO ?aR (fun _ _ h => h) (fun _ h => h.elim) ?aF ?aB ?aS ?aL ?_
          case aO => exact hR6
          case aR => exact hC6
          case aF => intro k hk; have := hB6.size; omega
          case aB => exact hB6
          case aS => exact hB6.size
          case aL => have := HVl.out; omega
          intro v45 w7 ho hb hg hat
          obtain ⟨A45, c45, l2, rfl, hch, hbd⟩ := hrow.out _ hb _ ho
          have hbad := Fact.mk hbd
          have H7 : Fact (Jr w w7 L (PD.new 120) q false) := ⟨H5.out.step hb⟩
          have HC7 := Fact.mk hch
          clear ho hb hg hat hch hbd hrow hR6 hC6 hB6 H6
          refine hK.out _ _ ?_
          clear hK K
          refine norm_ (a' := ?_) ?_ ?_
          rotate_left
          · show Act.put _ (some 45) _ = _
            simp only [Act.put, List.setIfInBounds_toArray, List.set_cons_zero, List.set_cons_succ, i64_w, i32_w]
            rfl
          refine pure_ (i := 12) (N := (some 0)) (v := ?_) (a' := ?_) #[true, true, true, true, true, true, true, true, true, true, true, true, true] rfl rfl (by kernel_rfl) (fun _ _ _ h => h) (Or.inl ⟨by rfl, ?_⟩) ?_ ?_
          rotate_left
          · intro w'
            go_simp
            with_reducible rfl
          rotate_left
          · simp only [Act.put, List.setIfInBounds_toArray, List.set_cons_zero, List.set_cons_succ, i64_w, i32_w]
            rfl
          refine done_ (by kernel_rfl) ?_
          clear HS HVl HV HC HC5 c0 c1 hHeld
          go_wp2_with fail
          refine (Arm_law H7.out 0 (by decide)).mono ?_
          rintro e w8 ⟨rfl, h8, o8⟩
          have H8 := Fact.mk h8
          have HC8 := Fact.mk (HC7.out.step o8)
          clear h8 o8 H7 HC7
          go_wp2_with fail
          refine (Do_law H8.out A45 c45 HC8.out (do_wrong hbad.out)).mono ?_
          rintro e w9 ⟨rfl, h9, -⟩
          have H9 := Fact.mk h9
          clear h9 H8 HC8
          go_wp2_with fail
          refine (Down_any H9.out.disk).mono ?_
          rintro e w10 ⟨rfl, rfl⟩
          rw [show ((PD.new 120).arm 0).down = false from rfl]
          go_wp2_with fail
          refine (Broken_any H9.out.redo).mono ?_
          rintro e w10 ⟨rfl, rfl⟩
          go_wp2_with fail
          refine (Pending_none H9.out.disk RA.out.set).mono ?_
          rintro e w11 ⟨Ap, cp, rfl, b11⟩
          have B11 := Fact.mk (next_new H9.out.below b11)
          clear b11
          go_wp2_with fail
          go_ret
          exact ⟨rfl, B11.out⟩
        · intro hcont
          have hWs : w4.heap.size ≤ W.heap.size := by rw [hb4]; exact Nat.le_refl _
          have hWb : ∀ w', Below W.heap.size W w' → Below w4.heap.size w4 w' := fun w' h => hHeld.trans (h.mono hWs)
          refine two_ (i := 0) (j := 10) (Ni := some 34) (Nj := some 44) #[true, true, false, true, true, true, true, true, true, true, false, false, false] #[false, true, false, true, true, true, true, true, true, true, true, false, false] rfl rfl rfl rfl (by kernel_rfl) (by decide) (by decide) (fun K hK => ?_) (fun K hK => ?_)
          · have bw1 : Below W.heap.size W (W.alloc (.cells #[] 47)) := (Below.refl _ _).alloc (Nat.le_refl _) _
            refine value_ (v := .slice (some ⟨W.heap.size, 0, none⟩) 0 0) (w1 := W.alloc (.cells #[] 47)) (by rfl) rfl (exec_build0 rfl (build_none W)) ?_
            refine hK.out _ _ (hWb _ bw1) (fun hxx => ?_)
            clear hK K hxx
            refine norm_ (a' := ?_) ?_ ?_
            rotate_left
            · show Act.put _ (some 34) _ = _
              simp only [Act.put, List.setIfInBounds_toArray, List.set_cons_zero, List.set_cons_succ, i64_w, i32_w]
              rfl
            have hs1 : (W.alloc (.cells #[] 47)).heap.size = W.heap.size + 1 := by simp
            refine two_ (i := 2) (j := 10) (Ni := some 36) (Nj := some 44) #[true, true, true, true, true, true, true, true, true, true, false, false, false] #[true, true, false, true, true, true, true, true, true, true, true, false, false] rfl rfl rfl rfl (by kernel_rfl) (by decide) (by decide) (fun K hK => ?_) (fun K hK => ?_)
            · refine Kd.R_append_rows_step chK (w0 := W) W.heap.size (by rfl) (.tmp 34) (.tmp 35) 22 47 (.agg #[.int .i64 0, .slice none 0 0]) 32 rfl Try.underlying22 info_ch rfl (by decide) (by decide) (.slice (some ⟨W.heap.size, 0, none⟩) 0 0) [] vs (some ad) a.length ca (fun k => W.heap.size ≤ k) (fun _ => False) rfl rfl ?aO ?aR (fun _ _ h => h) (fun _ h => h.elim) ?aF ?aB ?aS ?aL ?_
              case aO => exact none_own W
              case aR => exact HC5.out _ bw1
              case aF => intro k hk; omega
              case aB => exact bw1
              case aS => omega
              case aL => simp; omega
              intro v1 w5 ho hb hg hat
              rw [List.nil_append] at ho
              refine hK.out _ _ (hWb _ hb) (fun hxx => ?_)
              clear hK K hxx
              refine norm_ (a' := ?_) ?_ ?_
              rotate_left
              · show Act.put _ (some 36) _ = _
                simp only [Act.put, List.setIfInBounds_toArray, List.set_cons_zero, List.set_cons_succ, i64_w, i32_w]
                rfl
              refine one_ (i := 10) (N := some 44) #[true, true, true, true, true, true, true, true, true, true, true, false, false] rfl rfl (by kernel_rfl) (by decide) (fun K hK => ?_)
              have bw5 := hb.alloc hb.size (.cells #[.int .i64 x, .slice sA sn sc] 47)
              refine value_ (v := .slice (some ⟨w5.heap.size, 0, none⟩) 1 1) (w1 := w5.alloc (.cells #[.int .i64 x, .slice sA sn sc] 47)) (by rfl) rfl (exec_build1 rfl rfl (build_ch w5 x sA sn sc)) ?_
              refine hK.out _ _ (hWb _ bw5) (fun hxx => ?_)
              clear hK K hxx
              exact hcont (.slice (some ⟨W.heap.size, 0, none⟩) 0 0, v1, some ⟨w5.heap.size, 0, none⟩) _ ⟨Kd.R_alloc ho _, box_reads w5 (x, ⟨sA, sn, sc⟩), bw5⟩
            · have bw2 := bw1.alloc bw1.size (.cells #[.int .i64 x, .slice sA sn sc] 47)
              refine value_ (v := .slice (some ⟨(W.alloc (.cells #[] 47)).heap.size, 0, none⟩) 1 1) (w1 := (W.alloc (.cells #[] 47)).alloc (.cells #[.int .i64 x, .slice sA sn sc] 47)) (by rfl) rfl (exec_build1 rfl rfl (build_ch (W.alloc (.cells #[] 47)) x sA sn sc)) ?_
              refine hK.out _ _ (hWb _ bw2) (fun hxx => ?_)
              clear hK K hxx
              rw [hs1]
              refine norm_ (a' := ?_) ?_ ?_
              rotate_left
              · show Act.put _ (some 44) _ = _
                simp only [Act.put, List.setIfInBounds_toArray, List.set_cons_zero, List.set_cons_succ, i64_w, i32_w]
                rfl
              have hbox := heap_alloc_new (W.alloc (.cells #[] 47)) (.cells #[.int .i64 x, .slice sA sn sc] 47)
              rw [hs1] at hbox
              refine one_ (i := 2) (N := some 36) #[true, true, true, true, true, true, true, true, true, true, true, false, false] rfl rfl (by kernel_rfl) (by decide) (fun K hK => ?_)
              refine Kd.R_append_rows_step chK (w0 := W) W.heap.size (by rfl) (.tmp 34) (.tmp 35) 22 47 (.agg #[.int .i64 0, .slice none 0 0]) 32 rfl Try.underlying22 info_ch rfl (by decide) (by decide) (.slice (some ⟨W.heap.size, 0, none⟩) 0 0) [] vs (some ad) a.length ca (fun k => W.heap.size ≤ k) (fun _ => False) rfl rfl ?aO ?aR (fun _ _ h => h) (fun _ h => h.elim) ?aF ?aB ?aS ?aL ?_
              case aO => exact Kd.R_alloc (none_own W) _
              case aR => exact HC5.out _ bw2
              case aF => intro k hk; simp at hk; omega
              case aB => exact bw2
              case aS => simp; omega
              case aL => simp; omega
              intro v1 w5 ho hb hg hat
              rw [List.nil_append] at ho
              refine hK.out _ _ (hWb _ hb) (fun hxx => ?_)
              clear hK K hxx
              have hb5 := move_box (v := (x, ⟨sA, sn, sc⟩)) hbox (hg.block (W.heap.size + 1) (by simp) (fun h => by simp [Value.ownBlock] at h))
              refine norm_ (a' := ?_) ?_ ?_
              rotate_left
              · show Act.put _ (some 36) _ = _
                simp only [Act.put, List.setIfInBounds_toArray, List.set_cons_zero, List.set_cons_succ, i64_w, i32_w]
                rfl
              refine norm_ (a' := putAll _ [(34, _), (36, v1), (44, .slice (some ⟨W.heap.size + 1, 0, none⟩) 1 1)]) ?_ (hcont (.slice (some ⟨W.heap.size, 0, none⟩) 0 0, v1, some ⟨W.heap.size + 1, 0, none⟩) _ ⟨ho, hb5, hb⟩)
              simp only [putAll, Act.put, List.setIfInBounds_toArray, List.set_cons_zero, List.set_cons_succ]
          · have bw1 : Below W.heap.size W (W.alloc (.cells #[.int .i64 x, .slice sA sn sc] 47)) := (Below.refl _ _).alloc (Nat.le_refl _) _
            refine value_ (v := .slice (some ⟨W.heap.size, 0, none⟩) 1 1) (w1 := W.alloc (.cells #[.int .i64 x, .slice sA sn sc] 47)) (by rfl) rfl (exec_build1 rfl rfl (build_ch W x sA sn sc)) ?_
            refine hK.out _ _ (hWb _ bw1) (fun hxx => ?_)
            clear hK K hxx
            refine norm_ (a' := ?_) ?_ ?_
            rotate_left
            · show Act.put _ (some 44) _ = _
              simp only [Act.put, List.setIfInBounds_toArray, List.set_cons_zero, List.set_cons_succ, i64_w, i32_w]
              rfl
            have hs1 : (W.alloc (.cells #[.int .i64 x, .slice sA sn sc] 47)).heap.size = W.heap.size + 1 := by simp
            have hbox := heap_alloc_new W (.cells #[.int .i64 x, .slice sA sn sc] 47)
            have hown := none_own (W.alloc (.cells #[.int .i64 x, .slice sA sn sc] 47))
            have hbn := build_none (W.alloc (.cells #[.int .i64 x, .slice sA sn sc] 47))
            rw [hs1] at hown hbn
            have bw2 := bw1.alloc bw1.size (.cells #[] 47)
            have hbox2 : ((W.alloc (.cells #[.int .i64 x, .slice sA sn sc] 47)).alloc (.cells #[] 47)).heap[W.heap.size]? = some (.cells #[.int .i64 x, .slice sA sn sc] 47 (0, 0)) := by
              rw [← hbox]
              exact ((Below.refl (W.alloc (.cells #[.int .i64 x, .slice sA sn sc] 47)).heap.size _).alloc (Nat.le_refl _) _).block _ (by rw [hs1]; exact Nat.lt_succ_self _)
            refine one_ (i := 0) (N := some 34) #[true, true, false, true, true, true, true, true, true, true, true, false, false] rfl rfl (by kernel_rfl) (by decide) (fun K hK => ?_)
            refine value_ (v := .slice (some ⟨W.heap.size + 1, 0, none⟩) 0 0) (w1 := (W.alloc (.cells #[.int .i64 x, .slice sA sn sc] 47)).alloc (.cells #[] 47)) (by rfl) rfl (exec_build0 rfl hbn) ?_
            refine hK.out _ _ (hWb _ bw2) (fun hxx => ?_)
            clear hK K hxx
            refine norm_ (a' := ?_) ?_ ?_
            rotate_left
            · show Act.put _ (some 34) _ = _
              simp only [Act.put, List.setIfInBounds_toArray, List.set_cons_zero, List.set_cons_succ, i64_w, i32_w]
              rfl
            refine one_ (i := 2) (N := some 36) #[true, true, true, true, true, true, true, true, true, true, true, false, false] rfl rfl (by kernel_rfl) (by decide) (fun K hK => ?_)
            refine Kd.R_append_rows_step chK (w0 := W) W.heap.size (by rfl) (.tmp 34) (.tmp 35) 22 47 (.agg #[.int .i64 0, .slice none 0 0]) 32 rfl Try.underlying22 info_ch rfl (by decide) (by decide) (.slice (some ⟨W.heap.size + 1, 0, none⟩) 0 0) [] vs (some ad) a.length ca (fun k => W.heap.size ≤ k) (fun _ => False) rfl rfl ?aO ?aR (fun _ _ h => h) (fun _ h => h.elim) ?aF ?aB ?aS ?aL ?_
            case aO => exact Kd.R_mono (Kd.R_lower hown (Nat.le_succ _)) (fun k hk => Nat.le_of_succ_le hk)
            case aR => exact HC5.out _ bw2
            case aF => intro k hk; simp at hk; omega
            case aB => exact bw2
            case aS => simp; omega
            case aL => simp; omega
            intro v1 w5 ho hb hg hat
            rw [List.nil_append] at ho
            refine hK.out _ _ (hWb _ hb) (fun hxx => ?_)
            clear hK K hxx
            have hb5 := move_box (v := (x, ⟨sA, sn, sc⟩)) hbox2 (hg.block W.heap.size (by simp; omega) (fun h => by simp [Value.ownBlock] at h))
            refine norm_ (a' := ?_) ?_ ?_
            rotate_left
            · show Act.put _ (some 36) _ = _
              simp only [Act.put, List.setIfInBounds_toArray, List.set_cons_zero, List.set_cons_succ, i64_w, i32_w]
              rfl
            refine norm_ (a' := putAll _ [(34, .slice (some ⟨W.heap.size + 1, 0, none⟩) 0 0), (36, v1), (44, .slice (some ⟨W.heap.size, 0, none⟩) 1 1)]) ?_ (hcont (.slice (some ⟨W.heap.size + 1, 0, none⟩) 0 0, v1, some ⟨W.heap.size, 0, none⟩) _ ⟨ho, hb5, hb⟩)
            simp only [putAll, Act.put, List.setIfInBounds_toArray, List.set_cons_zero, List.set_cons_succ]
      · have hnil : a = [] := List.length_eq_zero_iff.1 (by omega)
        subst hnil
        have hbad : Fact (rightOf ((((PD.new 120).arm 0).n : Int) - 100) [] = false) := ⟨none_wrong⟩
        have hcA : Fact (Chs (RS L q) w4 A []) := ⟨(args_of HA.out H4.out.new).step (Only.of_below H4.out.below _)⟩
        go_wp2_with fail
        refine (Arm_law H4.out 0 (by decide)).mono ?_
        rintro e w8 ⟨rfl, h8, o8⟩
        have H8 := Fact.mk h8
        have HC8 := Fact.mk (hcA.out.step o8)
        clear h8 o8 H4 hcA
        go_wp2_with fail
        refine (Do_law H8.out A ca HC8.out (do_wrong hbad.out)).mono ?_
        rintro e w9 ⟨rfl, h9, -⟩
        have H9 := Fact.mk h9
        clear h9 H8 HC8
        go_wp2_with fail
        refine (Down_any H9.out.disk).mono ?_
        rintro e w10 ⟨rfl, rfl⟩
        rw [show ((PD.new 120).arm 0).down = false from rfl]
        go_wp2_with fail
        refine (Broken_any H9.out.redo).mono ?_
        rintro e w10 ⟨rfl, rfl⟩
        go_wp2_with fail
        refine (Pending_none H9.out.disk RA.out.set).mono ?_
        rintro e w11 ⟨Ap, cp, rfl, b11⟩
        have B11 := Fact.mk (next_new H9.out.below b11)
        clear b11
        go_wp2_with fail
        go_ret
        exact ⟨rfl, B11.out⟩
end Go.Proofs.Ytjpbpeiknnloeaa.Dk
