import Derived.Test.YtllnleokjcimhaaDoorZEntryFitsEnLTurns
/-
The law EntryFits: what a version can have the ones above it can have too; and a record that is turned up and down again is the same bytes.
-/
namespace Go.Proofs.YtllnleokjcimhaaDoor.En
open Go.RowKit Go.Maps Go.Proofs.YtllnleokjcimhaaDoorW.PrintWords Go.Proofs.YtllnleokjcimhaaDoorW.PrintLast Go.Proofs.YtllnleokjcimhaaDoorW.PrintMore Go.Proofs.YtllnleokjcimhaaDoor.P Go.Proofs.YtllnleokjcimhaaDoor.Pure
set_option linter.unusedVariables false
set_option linter.unusedSimpArgs false
theorem fits_three (x : PE) : fitsP x 3 = rightP x := by
  unfold fitsP
  simp
theorem fits_zero (x : PE) : fitsP x 0 = false := by
  unfold fitsP
  simp
theorem fits_four (x : PE) : fitsP x 4 = false := by
  unfold fitsP
  simp
theorem fits_up {x : PE} {v : Int} (h : fitsP x v = true) (hv : v < 3) : fitsP x (v + 1) = true := by
  obtain ⟨h1, h2, h3, h4⟩ := fitsP_right h
  unfold fitsP
  simp only [Bool.and_eq_true, decide_eq_true_eq]
  refine ⟨⟨⟨h1, by omega⟩, ?_⟩, by omega⟩
  rcases h3 with h3 | h3
  · omega
  · exact .inr h3
theorem bytes_str {W : World} {A : Option Addr} {c : Nat} {l : List Int} (h : ReadB W A l.length l) : (convert 25 9 (.slice A l.length c)).run Tryd.prog W = .ok (.string (strOfNums l)) W :=
  Kd.C_string Tryd.underlying25 Tryd.underlying5 Tryd.underlying9 h
set_option maxHeartbeats 8000000 in
set_option maxRecDepth 100000 in
theorem EntryFits_true (w : World) (ve : Value) (x : PE) (hE : Ent (fun _ => False) w ve x) (hG : Good x) :
    Calls Tryd.prog 9 #[ve] w fun e w' => e = .returned (.bool true) ∧ Below w.heap.size w w' := by
  obtain ⟨vn, vf, vb, rfl, ⟨An, cn, rfl, hcn, hrn⟩, ⟨Af, cf, rfl, hcf, hrf⟩, ⟨Ab, cb, rfl, hcb, hrb⟩⟩ := hE
  have H0 : Fact (Ent (fun _ => False) w (.agg #[.string x.key, .string x.second, .slice An x.names.length cn, .int .i64 x.asked, .int .i64 x.came, .int .i64 x.status, .slice Af (flds x.fields).length cf, .slice Ab x.body.length cb, .int .i64 x.gen]) x) := ⟨⟨_, _, _, rfl, ⟨An, cn, rfl, hcn, hrn⟩, ⟨Af, cf, rfl, hcf, hrf⟩, ⟨Ab, cb, rfl, hcb, hrb⟩⟩⟩
  have HG := Fact.mk hG
  clear hrn hrf hrb hG
  go_enter Tryd.func9, Tryd.ntmps9
  go_wp2_with fail
  have H1 : Fact (Ent (fun _ => False) (w.alloc (.cells #[.string x.key, .string x.second, .slice An x.names.length cn, .int .i64 x.asked, .int .i64 x.came, .int .i64 x.status, .slice Af (flds x.fields).length cf, .slice Ab x.body.length cb, .int .i64 x.gen] 27)) (.agg #[.string x.key, .string x.second, .slice An x.names.length cn, .int .i64 x.asked, .int .i64 x.came, .int .i64 x.status, .slice Af (flds x.fields).length cf, .slice Ab x.body.length cb, .int .i64 x.gen]) x ∧ Below w.heap.size w (w.alloc (.cells #[.string x.key, .string x.second, .slice An x.names.length cn, .int .i64 x.asked, .int .i64 x.came, .int .i64 x.status, .slice Af (flds x.fields).length cf, .slice Ab x.body.length cb, .int .i64 x.gen] 27)) ∧ (w.alloc (.cells #[.string x.key, .string x.second, .slice An x.names.length cn, .int .i64 x.asked, .int .i64 x.came, .int .i64 x.status, .slice Af (flds x.fields).length cf, .slice Ab x.body.length cb, .int .i64 x.gen] 27)).heap[w.heap.size]? = some (.cells #[.string x.key, .string x.second, .slice An x.names.length cn, .int .i64 x.asked, .int .i64 x.came, .int .i64 x.status, .slice Af (flds x.fields).length cf, .slice Ab x.body.length cb, .int .i64 x.gen] 27 (0, 0))) := ⟨H0.out.new ((Below.refl _ _).alloc (Nat.le_refl _) _), (Below.refl _ _).alloc (Nat.le_refl _) _, heap_alloc_new w _⟩
  clear H0
  generalize w.alloc (.cells #[.string x.key, .string x.second, .slice An x.names.length cn, .int .i64 x.asked, .int .i64 x.came, .int .i64 x.status, .slice Af (flds x.fields).length cf, .slice Ab x.body.length cb, .int .i64 x.gen] 27) = wa at *
  refine (anchor_any wa).mono ?_
  rintro e w1 ⟨rfl, hb1⟩
  have H2 : Fact (Ent (fun _ => False) w1 (.agg #[.string x.key, .string x.second, .slice An x.names.length cn, .int .i64 x.asked, .int .i64 x.came, .int .i64 x.status, .slice Af (flds x.fields).length cf, .slice Ab x.body.length cb, .int .i64 x.gen]) x ∧ Below w.heap.size w w1 ∧ w1.heap[w.heap.size]? = some (.cells #[.string x.key, .string x.second, .slice An x.names.length cn, .int .i64 x.asked, .int .i64 x.came, .int .i64 x.status, .slice Af (flds x.fields).length cf, .slice Ab x.body.length cb, .int .i64 x.gen] 27 (0, 0))) := ⟨H1.out.1.new hb1, next_new H1.out.2.1 hb1, (hb1.block _ (Array.getElem?_eq_some_iff.1 H1.out.2.2).1).trans H1.out.2.2⟩
  clear hb1 H1
  clear wa
  obtain ⟨x0, x1, x2, x3, x4, x5, x6, x7, x8⟩ := nine H2.out.2.2
  go_wp2_with fail
  refine (small_any H2.out.1 HG.out.names HG.out.fields).mono ?_
  rintro e w2 ⟨rfl, hb2⟩
  have H3 : Fact (Ent (fun _ => False) w2 (.agg #[.string x.key, .string x.second, .slice An x.names.length cn, .int .i64 x.asked, .int .i64 x.came, .int .i64 x.status, .slice Af (flds x.fields).length cf, .slice Ab x.body.length cb, .int .i64 x.gen]) x ∧ Below w.heap.size w w2 ∧ w2.heap[w.heap.size]? = some (.cells #[.string x.key, .string x.second, .slice An x.names.length cn, .int .i64 x.asked, .int .i64 x.came, .int .i64 x.status, .slice Af (flds x.fields).length cf, .slice Ab x.body.length cb, .int .i64 x.gen] 27 (0, 0))) := ⟨H2.out.1.new hb2, next_new H2.out.2.1 hb2, (hb2.block _ (Array.getElem?_eq_some_iff.1 H2.out.2.2).1).trans H2.out.2.2⟩
  clear hb2 H2 x0 x1 x2 x3 x4 x5 x6 x7 x8
  clear w1
  cases hsm : smallP x with
  | false =>
    go_wp2_with fail
    go_ret
    exact ⟨rfl, H3.out.2.1⟩
  | true =>
    have HB := Fact.mk (smallP_bnd hsm HG.out.bytes)
    clear hsm
    go_wp2_with fail
    go_loopw [3] (fun v3 wr => ∃ v : Nat, v3 = .int .i64 (v : Int) ∧ 1 ≤ v ∧ v ≤ 4 ∧ Fact (Ent (fun _ => False) wr (.agg #[.string x.key, .string x.second, .slice An x.names.length cn, .int .i64 x.asked, .int .i64 x.came, .int .i64 x.status, .slice Af (flds x.fields).length cf, .slice Ab x.body.length cb, .int .i64 x.gen]) x ∧ Below w.heap.size w wr ∧ wr.heap[w.heap.size]? = some (.cells #[.string x.key, .string x.second, .slice An x.names.length cn, .int .i64 x.asked, .int .i64 x.came, .int .i64 x.status, .slice Af (flds x.fields).length cf, .slice Ab x.body.length cb, .int .i64 x.gen] 27 (0, 0)))) (fun v _ => 4 - (intOf v).toNat)
    case atStart => exact ⟨1, rfl, by omega, by omega, H3⟩
    case round =>
      obtain ⟨v, rfl, hv1, hv4, S⟩ := hrel
      clear H3
      by_cases hv : v ≤ 3
      rotate_left
      · have hvi : ¬ (v : Int) ≤ 3 := by omega
        rename World => w9
        have H9 := S
        clear S
        cases hr : rightP x with
        | false =>
          go_wp2_with fail
          skip
          refine start_ (n := 16) (S := fun w' => w'.cell? ⟨w.heap.size, 0, none⟩ = some (.string x.key) ∧ w'.cell? ⟨w.heap.size, 1, none⟩ = some (.string x.second) ∧ w'.cell? ⟨w.heap.size, 2, none⟩ = some (.slice An x.names.length cn) ∧ w'.cell? ⟨w.heap.size, 3, none⟩ = some (.int .i64 x.asked) ∧ w'.cell? ⟨w.heap.size, 4, none⟩ = some (.int .i64 x.came) ∧ w'.cell? ⟨w.heap.size, 5, none⟩ = some (.int .i64 x.status) ∧ w'.cell? ⟨w.heap.size, 6, none⟩ = some (.slice Af (flds x.fields).length cf) ∧ w'.cell? ⟨w.heap.size, 7, none⟩ = some (.slice Ab x.body.length cb) ∧ w'.cell? ⟨w.heap.size, 8, none⟩ = some (.int .i64 x.gen)) (ds := []) #[false, false, false, false, false, false, false, false, false, false, false, false, false, false, false, false] (by kernel_rfl) rfl rfl (nine (show (w9.drew).heap[w.heap.size]? = some (.cells #[.string x.key, .string x.second, .slice An x.names.length cn, .int .i64 x.asked, .int .i64 x.came, .int .i64 x.status, .slice Af (flds x.fields).length cf, .slice Ab x.body.length cb, .int .i64 x.gen] 27 (0, 0)) from H9.out.2.2)) (fun hHeld => ?_)
          have HD : Fact (Ent (fun _ => False) w9.drew (.agg #[.string x.key, .string x.second, .slice An x.names.length cn, .int .i64 x.asked, .int .i64 x.came, .int .i64 x.status, .slice Af (flds x.fields).length cf, .slice Ab x.body.length cb, .int .i64 x.gen]) x ∧ Below w.heap.size w w9.drew ∧ w9.drew.heap[w.heap.size]? = some (.cells #[.string x.key, .string x.second, .slice An x.names.length cn, .int .i64 x.asked, .int .i64 x.came, .int .i64 x.status, .slice Af (flds x.fields).length cf, .slice Ab x.body.length cb, .int .i64 x.gen] 27 (0, 0))) := ⟨H9.out.1.new (Below.refl _ _).drew, H9.out.2.1.drew, H9.out.2.2⟩
          clear H9
          generalize w9.drew = W at *
          skip
          refine take_ (i := 0) (N := (some 69)) (v := ?_) (a' := ?_) #[true, false, false, false, false, false, false, false, false, false, false, false, false, false, false, false] rfl rfl (by kernel_rfl) (fun _ _ _ h => h) (Or.inl ⟨by rfl, ?_⟩) hHeld ?_ ?_
          rotate_left
          · rintro w' ⟨s0, s1, s2, s3, s4, s5, s6, s7, s8⟩
            go_simp
            with_reducible rfl
          rotate_left
          · simp only [Act.put, List.setIfInBounds_toArray, List.set_cons_zero, List.set_cons_succ, i64_w, i32_w]
            rfl
          refine take_ (i := 2) (N := (some 71)) (v := ?_) (a' := ?_) #[true, false, true, false, false, false, false, false, false, false, false, false, false, false, false, false] rfl rfl (by kernel_rfl) (fun _ _ _ h => h) (Or.inl ⟨by rfl, ?_⟩) hHeld ?_ ?_
          rotate_left
          · rintro w' ⟨s0, s1, s2, s3, s4, s5, s6, s7, s8⟩
            go_simp
            with_reducible rfl
          rotate_left
          · simp only [Act.put, List.setIfInBounds_toArray, List.set_cons_zero, List.set_cons_succ, i64_w, i32_w]
            rfl
          refine one_ (i := 1) (N := (some 70)) #[true, true, true, false, false, false, false, false, false, false, false, false, false, false, false, false] rfl rfl (by kernel_rfl) (by decide) (fun K hK => ?_)
          refine goes_ Tryd.func14 (by kernel_rfl) rfl #[(.agg #[.string x.key, .string x.second, .slice An x.names.length cn, .int .i64 x.asked, .int .i64 x.came, .int .i64 x.status, .slice Af (flds x.fields).length cf, .slice Ab x.body.length cb, .int .i64 x.gen])] (by rfl) rfl rfl (by (try simp only [List.map_toArray, List.map_cons, List.map_nil]); first | done | rfl) ?_
          refine (right_any HD.out.1 HB.out).mono ?_
          rw [hr]
          rintro e w5 ⟨rfl, hb5⟩
          have H5 : Fact (Ent (fun _ => False) w5 (.agg #[.string x.key, .string x.second, .slice An x.names.length cn, .int .i64 x.asked, .int .i64 x.came, .int .i64 x.status, .slice Af (flds x.fields).length cf, .slice Ab x.body.length cb, .int .i64 x.gen]) x ∧ Below w.heap.size w w5 ∧ w5.heap[w.heap.size]? = some (.cells #[.string x.key, .string x.second, .slice An x.names.length cn, .int .i64 x.asked, .int .i64 x.came, .int .i64 x.status, .slice Af (flds x.fields).length cf, .slice Ab x.body.length cb, .int .i64 x.gen] 27 (0, 0))) := ⟨HD.out.1.new hb5, next_new HD.out.2.1 hb5, (hb5.block _ (Array.getElem?_eq_some_iff.1 HD.out.2.2).1).trans HD.out.2.2⟩
          clear hb5 HD
          replace hHeld := nine H5.out.2.2
          refine ⟨_, rfl, ?_⟩
          refine hK.out _ _ hHeld (fun hxx => ?_)
          clear hK K hxx
          refine norm_ (a' := ?_) ?_ ?_
          rotate_left
          · show Act.put _ (some 70) _ = _
            simp only [Act.put, List.setIfInBounds_toArray, List.set_cons_zero, List.set_cons_succ, i64_w, i32_w]
            rfl
          refine one_ (i := 3) (N := (some 72)) #[true, true, true, true, false, false, false, false, false, false, false, false, false, false, false, false] rfl rfl (by kernel_rfl) (by decide) (fun K hK => ?_)
          refine goes_ Tryd.func16 (by kernel_rfl) rfl #[(.agg #[.string x.key, .string x.second, .slice An x.names.length cn, .int .i64 x.asked, .int .i64 x.came, .int .i64 x.status, .slice Af (flds x.fields).length cf, .slice Ab x.body.length cb, .int .i64 x.gen]), .int .i64 3] (by rfl) rfl rfl (by (try simp only [List.map_toArray, List.map_cons, List.map_nil]); first | done | rfl) ?_
          refine (fits_any H5.out.1 HB.out 3).mono ?_
          rw [fits_three, hr]
          rintro e w6 ⟨rfl, hb6⟩
          have H6 : Fact (Ent (fun _ => False) w6 (.agg #[.string x.key, .string x.second, .slice An x.names.length cn, .int .i64 x.asked, .int .i64 x.came, .int .i64 x.status, .slice Af (flds x.fields).length cf, .slice Ab x.body.length cb, .int .i64 x.gen]) x ∧ Below w.heap.size w w6 ∧ w6.heap[w.heap.size]? = some (.cells #[.string x.key, .string x.second, .slice An x.names.length cn, .int .i64 x.asked, .int .i64 x.came, .int .i64 x.status, .slice Af (flds x.fields).length cf, .slice Ab x.body.length cb, .int .i64 x.gen] 27 (0, 0))) := ⟨H5.out.1.new hb6, next_new H5.out.2.1 hb6, (hb6.block _ (Array.getElem?_eq_some_iff.1 H5.out.2.2).1).trans H5.out.2.2⟩
          clear hb6 H5
          replace hHeld := nine H6.out.2.2
          refine ⟨_, rfl, ?_⟩
          refine hK.out _ _ hHeld (fun hxx => ?_)
          clear hK K hxx
          refine norm_ (a' := ?_) ?_ ?_
          rotate_left
          · show Act.put _ (some 72) _ = _
            simp only [Act.put, List.setIfInBounds_toArray, List.set_cons_zero, List.set_cons_succ, i64_w, i32_w]
            rfl
          refine pure_ (i := 4) (N := (some 73)) (v := ?_) (a' := ?_) #[true, true, true, true, true, false, false, false, false, false, false, false, false, false, false, false] rfl rfl (by kernel_rfl) (fun _ _ _ h => h) (Or.inl ⟨by rfl, ?_⟩) ?_ ?_
          rotate_left
          · intro w'
            go_simp
            with_reducible rfl
          rotate_left
          · simp only [Act.put, List.setIfInBounds_toArray, List.set_cons_zero, List.set_cons_succ, i64_w, i32_w]
            rfl
          refine pure_ (i := 5) (N := (some 74)) (v := ?_) (a' := ?_) #[true, true, true, true, true, true, false, false, false, false, false, false, false, false, false, false] rfl rfl (by kernel_rfl) (fun _ _ _ h => h) (Or.inl ⟨by rfl, ?_⟩) ?_ ?_
          rotate_left
          · intro w'
            go_simp
            with_reducible rfl
          rotate_left
          · simp only [Act.put, List.setIfInBounds_toArray, List.set_cons_zero, List.set_cons_succ, i64_w, i32_w]
            rfl
          refine take_ (i := 6) (N := (some 75)) (v := ?_) (a' := ?_) #[true, true, true, true, true, true, true, false, false, false, false, false, false, false, false, false] rfl rfl (by kernel_rfl) (fun _ _ _ h => h) (Or.inl ⟨by rfl, ?_⟩) hHeld ?_ ?_
          rotate_left
          · rintro w' ⟨s0, s1, s2, s3, s4, s5, s6, s7, s8⟩
            go_simp
            with_reducible rfl
          rotate_left
          · simp only [Act.put, List.setIfInBounds_toArray, List.set_cons_zero, List.set_cons_succ, i64_w, i32_w]
            rfl
          refine one_ (i := 7) (N := (some 76)) #[true, true, true, true, true, true, true, true, false, false, false, false, false, false, false, false] rfl rfl (by kernel_rfl) (by decide) (fun K hK => ?_)
          refine goes_ Tryd.func16 (by kernel_rfl) rfl #[(.agg #[.string x.key, .string x.second, .slice An x.names.length cn, .int .i64 x.asked, .int .i64 x.came, .int .i64 x.status, .slice Af (flds x.fields).length cf, .slice Ab x.body.length cb, .int .i64 x.gen]), .int .i64 0] (by rfl) rfl rfl (by (try simp only [List.map_toArray, List.map_cons, List.map_nil]); first | done | rfl) ?_
          refine (fits_any H6.out.1 HB.out 0).mono ?_
          rw [fits_zero]
          rintro e w7 ⟨rfl, hb7⟩
          have H7 : Fact (Ent (fun _ => False) w7 (.agg #[.string x.key, .string x.second, .slice An x.names.length cn, .int .i64 x.asked, .int .i64 x.came, .int .i64 x.status, .slice Af (flds x.fields).length cf, .slice Ab x.body.length cb, .int .i64 x.gen]) x ∧ Below w.heap.size w w7 ∧ w7.heap[w.heap.size]? = some (.cells #[.string x.key, .string x.second, .slice An x.names.length cn, .int .i64 x.asked, .int .i64 x.came, .int .i64 x.status, .slice Af (flds x.fields).length cf, .slice Ab x.body.length cb, .int .i64 x.gen] 27 (0, 0))) := ⟨H6.out.1.new hb7, next_new H6.out.2.1 hb7, (hb7.block _ (Array.getElem?_eq_some_iff.1 H6.out.2.2).1).trans H6.out.2.2⟩
          clear hb7 H6
          replace hHeld := nine H7.out.2.2
          refine ⟨_, rfl, ?_⟩
          refine hK.out _ _ hHeld (fun hxx => ?_)
          clear hK K hxx
          refine norm_ (a' := ?_) ?_ ?_
          rotate_left
          · show Act.put _ (some 76) _ = _
            simp only [Act.put, List.setIfInBounds_toArray, List.set_cons_zero, List.set_cons_succ, i64_w, i32_w]
            rfl
          refine pure_ (i := 8) (N := (some 77)) (v := ?_) (a' := ?_) #[true, true, true, true, true, true, true, true, true, false, false, false, false, false, false, false] rfl rfl (by kernel_rfl) (fun _ _ _ h => h) (Or.inl ⟨by rfl, ?_⟩) ?_ ?_
          rotate_left
          · intro w'
            go_simp
            with_reducible rfl
          rotate_left
          · simp only [Act.put, List.setIfInBounds_toArray, List.set_cons_zero, List.set_cons_succ, i64_w, i32_w]
            rfl
          refine pure_ (i := 9) (N := (some 78)) (v := ?_) (a' := ?_) #[true, true, true, true, true, true, true, true, true, true, false, false, false, false, false, false] rfl rfl (by kernel_rfl) (fun _ _ _ h => h) (Or.inl ⟨by rfl, ?_⟩) ?_ ?_
          rotate_left
          · intro w'
            go_simp
            with_reducible rfl
          rotate_left
          · simp only [Act.put, List.setIfInBounds_toArray, List.set_cons_zero, List.set_cons_succ, i64_w, i32_w]
            rfl
          refine pure_ (i := 10) (N := (some 79)) (v := ?_) (a' := ?_) #[true, true, true, true, true, true, true, true, true, true, true, false, false, false, false, false] rfl rfl (by kernel_rfl) (fun _ _ _ h => h) (Or.inl ⟨by rfl, ?_⟩) ?_ ?_
          rotate_left
          · intro w'
            go_simp
            with_reducible rfl
          rotate_left
          · simp only [Act.put, List.setIfInBounds_toArray, List.set_cons_zero, List.set_cons_succ, i64_w, i32_w]
            rfl
          refine take_ (i := 11) (N := (some 80)) (v := ?_) (a' := ?_) #[true, true, true, true, true, true, true, true, true, true, true, true, false, false, false, false] rfl rfl (by kernel_rfl) (fun _ _ _ h => h) (Or.inl ⟨by rfl, ?_⟩) hHeld ?_ ?_
          rotate_left
          · rintro w' ⟨s0, s1, s2, s3, s4, s5, s6, s7, s8⟩
            go_simp
            with_reducible rfl
          rotate_left
          · simp only [Act.put, List.setIfInBounds_toArray, List.set_cons_zero, List.set_cons_succ, i64_w, i32_w]
            rfl
          refine one_ (i := 12) (N := (some 81)) #[true, true, true, true, true, true, true, true, true, true, true, true, true, false, false, false] rfl rfl (by kernel_rfl) (by decide) (fun K hK => ?_)
          refine goes_ Tryd.func16 (by kernel_rfl) rfl #[(.agg #[.string x.key, .string x.second, .slice An x.names.length cn, .int .i64 x.asked, .int .i64 x.came, .int .i64 x.status, .slice Af (flds x.fields).length cf, .slice Ab x.body.length cb, .int .i64 x.gen]), .int .i64 4] (by rfl) rfl rfl (by (try simp only [List.map_toArray, List.map_cons, List.map_nil]); first | done | rfl) ?_
          refine (fits_any H7.out.1 HB.out 4).mono ?_
          rw [fits_four]
          rintro e w8 ⟨rfl, hb8⟩
          have H8 : Fact (Ent (fun _ => False) w8 (.agg #[.string x.key, .string x.second, .slice An x.names.length cn, .int .i64 x.asked, .int .i64 x.came, .int .i64 x.status, .slice Af (flds x.fields).length cf, .slice Ab x.body.length cb, .int .i64 x.gen]) x ∧ Below w.heap.size w w8 ∧ w8.heap[w.heap.size]? = some (.cells #[.string x.key, .string x.second, .slice An x.names.length cn, .int .i64 x.asked, .int .i64 x.came, .int .i64 x.status, .slice Af (flds x.fields).length cf, .slice Ab x.body.length cb, .int .i64 x.gen] 27 (0, 0))) := ⟨H7.out.1.new hb8, next_new H7.out.2.1 hb8, (hb8.block _ (Array.getElem?_eq_some_iff.1 H7.out.2.2).1).trans H7.out.2.2⟩
          clear hb8 H7
          replace hHeld := nine H8.out.2.2
          refine ⟨_, rfl, ?_⟩
          refine hK.out _ _ hHeld (fun hxx => ?_)
          clear hK K hxx
          refine norm_ (a' := ?_) ?_ ?_
          rotate_left
          · show Act.put _ (some 81) _ = _
            simp only [Act.put, List.setIfInBounds_toArray, List.set_cons_zero, List.set_cons_succ, i64_w, i32_w]
            rfl
          refine pure_ (i := 13) (N := (some 82)) (v := ?_) (a' := ?_) #[true, true, true, true, true, true, true, true, true, true, true, true, true, true, false, false] rfl rfl (by kernel_rfl) (fun _ _ _ h => h) (Or.inl ⟨by rfl, ?_⟩) ?_ ?_
          rotate_left
          · intro w'
            go_simp
            with_reducible rfl
          rotate_left
          · simp only [Act.put, List.setIfInBounds_toArray, List.set_cons_zero, List.set_cons_succ, i64_w, i32_w]
            rfl
          refine pure_ (i := 14) (N := (some 83)) (v := ?_) (a' := ?_) #[true, true, true, true, true, true, true, true, true, true, true, true, true, true, true, false] rfl rfl (by kernel_rfl) (fun _ _ _ h => h) (Or.inl ⟨by rfl, ?_⟩) ?_ ?_
          rotate_left
          · intro w'
            go_simp
            with_reducible rfl
          rotate_left
          · simp only [Act.put, List.setIfInBounds_toArray, List.set_cons_zero, List.set_cons_succ, i64_w, i32_w]
            rfl
          refine pure_ (i := 15) (N := (some 2)) (v := ?_) (a' := ?_) #[true, true, true, true, true, true, true, true, true, true, true, true, true, true, true, true] rfl rfl (by kernel_rfl) (fun _ _ _ h => h) (Or.inl ⟨by rfl, ?_⟩) ?_ ?_
          rotate_left
          · intro w'
            go_simp
            with_reducible rfl
          rotate_left
          · simp only [Act.put, List.setIfInBounds_toArray, List.set_cons_zero, List.set_cons_succ, i64_w, i32_w]
            rfl
          refine done_ (by kernel_rfl) ?_
          go_wp2_with fail
          go_ret
          exact ⟨rfl, H8.out.2.1⟩
        | true =>
          go_wp2_with fail
          skip
          refine start_ (n := 16) (S := fun w' => w'.cell? ⟨w.heap.size, 0, none⟩ = some (.string x.key) ∧ w'.cell? ⟨w.heap.size, 1, none⟩ = some (.string x.second) ∧ w'.cell? ⟨w.heap.size, 2, none⟩ = some (.slice An x.names.length cn) ∧ w'.cell? ⟨w.heap.size, 3, none⟩ = some (.int .i64 x.asked) ∧ w'.cell? ⟨w.heap.size, 4, none⟩ = some (.int .i64 x.came) ∧ w'.cell? ⟨w.heap.size, 5, none⟩ = some (.int .i64 x.status) ∧ w'.cell? ⟨w.heap.size, 6, none⟩ = some (.slice Af (flds x.fields).length cf) ∧ w'.cell? ⟨w.heap.size, 7, none⟩ = some (.slice Ab x.body.length cb) ∧ w'.cell? ⟨w.heap.size, 8, none⟩ = some (.int .i64 x.gen)) (ds := []) #[false, false, false, false, false, false, false, false, false, false, false, false, false, false, false, false] (by kernel_rfl) rfl rfl (nine (show (w9.drew).heap[w.heap.size]? = some (.cells #[.string x.key, .string x.second, .slice An x.names.length cn, .int .i64 x.asked, .int .i64 x.came, .int .i64 x.status, .slice Af (flds x.fields).length cf, .slice Ab x.body.length cb, .int .i64 x.gen] 27 (0, 0)) from H9.out.2.2)) (fun hHeld => ?_)
          have HD : Fact (Ent (fun _ => False) w9.drew (.agg #[.string x.key, .string x.second, .slice An x.names.length cn, .int .i64 x.asked, .int .i64 x.came, .int .i64 x.status, .slice Af (flds x.fields).length cf, .slice Ab x.body.length cb, .int .i64 x.gen]) x ∧ Below w.heap.size w w9.drew ∧ w9.drew.heap[w.heap.size]? = some (.cells #[.string x.key, .string x.second, .slice An x.names.length cn, .int .i64 x.asked, .int .i64 x.came, .int .i64 x.status, .slice Af (flds x.fields).length cf, .slice Ab x.body.length cb, .int .i64 x.gen] 27 (0, 0))) := ⟨H9.out.1.new (Below.refl _ _).drew, H9.out.2.1.drew, H9.out.2.2⟩
          clear H9
          generalize w9.drew = W at *
          skip
          refine take_ (i := 0) (N := (some 69)) (v := ?_) (a' := ?_) #[true, false, false, false, false, false, false, false, false, false, false, false, false, false, false, false] rfl rfl (by kernel_rfl) (fun _ _ _ h => h) (Or.inl ⟨by rfl, ?_⟩) hHeld ?_ ?_
          rotate_left
          · rintro w' ⟨s0, s1, s2, s3, s4, s5, s6, s7, s8⟩
            go_simp
            with_reducible rfl
          rotate_left
          · simp only [Act.put, List.setIfInBounds_toArray, List.set_cons_zero, List.set_cons_succ, i64_w, i32_w]
            rfl
          refine take_ (i := 2) (N := (some 71)) (v := ?_) (a' := ?_) #[true, false, true, false, false, false, false, false, false, false, false, false, false, false, false, false] rfl rfl (by kernel_rfl) (fun _ _ _ h => h) (Or.inl ⟨by rfl, ?_⟩) hHeld ?_ ?_
          rotate_left
          · rintro w' ⟨s0, s1, s2, s3, s4, s5, s6, s7, s8⟩
            go_simp
            with_reducible rfl
          rotate_left
          · simp only [Act.put, List.setIfInBounds_toArray, List.set_cons_zero, List.set_cons_succ, i64_w, i32_w]
            rfl
          refine one_ (i := 1) (N := (some 70)) #[true, true, true, false, false, false, false, false, false, false, false, false, false, false, false, false] rfl rfl (by kernel_rfl) (by decide) (fun K hK => ?_)
          refine goes_ Tryd.func14 (by kernel_rfl) rfl #[(.agg #[.string x.key, .string x.second, .slice An x.names.length cn, .int .i64 x.asked, .int .i64 x.came, .int .i64 x.status, .slice Af (flds x.fields).length cf, .slice Ab x.body.length cb, .int .i64 x.gen])] (by rfl) rfl rfl (by (try simp only [List.map_toArray, List.map_cons, List.map_nil]); first | done | rfl) ?_
          refine (right_any HD.out.1 HB.out).mono ?_
          rw [hr]
          rintro e w5 ⟨rfl, hb5⟩
          have H5 : Fact (Ent (fun _ => False) w5 (.agg #[.string x.key, .string x.second, .slice An x.names.length cn, .int .i64 x.asked, .int .i64 x.came, .int .i64 x.status, .slice Af (flds x.fields).length cf, .slice Ab x.body.length cb, .int .i64 x.gen]) x ∧ Below w.heap.size w w5 ∧ w5.heap[w.heap.size]? = some (.cells #[.string x.key, .string x.second, .slice An x.names.length cn, .int .i64 x.asked, .int .i64 x.came, .int .i64 x.status, .slice Af (flds x.fields).length cf, .slice Ab x.body.length cb, .int .i64 x.gen] 27 (0, 0))) := ⟨HD.out.1.new hb5, next_new HD.out.2.1 hb5, (hb5.block _ (Array.getElem?_eq_some_iff.1 HD.out.2.2).1).trans HD.out.2.2⟩
          clear hb5 HD
          replace hHeld := nine H5.out.2.2
          refine ⟨_, rfl, ?_⟩
          refine hK.out _ _ hHeld (fun hxx => ?_)
          clear hK K hxx
          refine norm_ (a' := ?_) ?_ ?_
          rotate_left
          · show Act.put _ (some 70) _ = _
            simp only [Act.put, List.setIfInBounds_toArray, List.set_cons_zero, List.set_cons_succ, i64_w, i32_w]
            rfl
          refine one_ (i := 3) (N := (some 72)) #[true, true, true, true, false, false, false, false, false, false, false, false, false, false, false, false] rfl rfl (by kernel_rfl) (by decide) (fun K hK => ?_)
          refine goes_ Tryd.func16 (by kernel_rfl) rfl #[(.agg #[.string x.key, .string x.second, .slice An x.names.length cn, .int .i64 x.asked, .int .i64 x.came, .int .i64 x.status, .slice Af (flds x.fields).length cf, .slice Ab x.body.length cb, .int .i64 x.gen]), .int .i64 3] (by rfl) rfl rfl (by (try simp only [List.map_toArray, List.map_cons, List.map_nil]); first | done | rfl) ?_
          refine (fits_any H5.out.1 HB.out 3).mono ?_
          rw [fits_three, hr]
          rintro e w6 ⟨rfl, hb6⟩
          have H6 : Fact (Ent (fun _ => False) w6 (.agg #[.string x.key, .string x.second, .slice An x.names.length cn, .int .i64 x.asked, .int .i64 x.came, .int .i64 x.status, .slice Af (flds x.fields).length cf, .slice Ab x.body.length cb, .int .i64 x.gen]) x ∧ Below w.heap.size w w6 ∧ w6.heap[w.heap.size]? = some (.cells #[.string x.key, .string x.second, .slice An x.names.length cn, .int .i64 x.asked, .int .i64 x.came, .int .i64 x.status, .slice Af (flds x.fields).length cf, .slice Ab x.body.length cb, .int .i64 x.gen] 27 (0, 0))) := ⟨H5.out.1.new hb6, next_new H5.out.2.1 hb6, (hb6.block _ (Array.getElem?_eq_some_iff.1 H5.out.2.2).1).trans H5.out.2.2⟩
          clear hb6 H5
          replace hHeld := nine H6.out.2.2
          refine ⟨_, rfl, ?_⟩
          refine hK.out _ _ hHeld (fun hxx => ?_)
          clear hK K hxx
          refine norm_ (a' := ?_) ?_ ?_
          rotate_left
          · show Act.put _ (some 72) _ = _
            simp only [Act.put, List.setIfInBounds_toArray, List.set_cons_zero, List.set_cons_succ, i64_w, i32_w]
            rfl
          refine pure_ (i := 4) (N := (some 73)) (v := ?_) (a' := ?_) #[true, true, true, true, true, false, false, false, false, false, false, false, false, false, false, false] rfl rfl (by kernel_rfl) (fun _ _ _ h => h) (Or.inl ⟨by rfl, ?_⟩) ?_ ?_
          rotate_left
          · intro w'
            go_simp
            with_reducible rfl
          rotate_left
          · simp only [Act.put, List.setIfInBounds_toArray, List.set_cons_zero, List.set_cons_succ, i64_w, i32_w]
            rfl
          refine pure_ (i := 5) (N := (some 74)) (v := ?_) (a' := ?_) #[true, true, true, true, true, true, false, false, false, false, false, false, false, false, false, false] rfl rfl (by kernel_rfl) (fun _ _ _ h => h) (Or.inl ⟨by rfl, ?_⟩) ?_ ?_
          rotate_left
          · intro w'
            go_simp
            with_reducible rfl
          rotate_left
          · simp only [Act.put, List.setIfInBounds_toArray, List.set_cons_zero, List.set_cons_succ, i64_w, i32_w]
            rfl
          refine take_ (i := 6) (N := (some 75)) (v := ?_) (a' := ?_) #[true, true, true, true, true, true, true, false, false, false, false, false, false, false, false, false] rfl rfl (by kernel_rfl) (fun _ _ _ h => h) (Or.inl ⟨by rfl, ?_⟩) hHeld ?_ ?_
          rotate_left
          · rintro w' ⟨s0, s1, s2, s3, s4, s5, s6, s7, s8⟩
            go_simp
            with_reducible rfl
          rotate_left
          · simp only [Act.put, List.setIfInBounds_toArray, List.set_cons_zero, List.set_cons_succ, i64_w, i32_w]
            rfl
          refine one_ (i := 7) (N := (some 76)) #[true, true, true, true, true, true, true, true, false, false, false, false, false, false, false, false] rfl rfl (by kernel_rfl) (by decide) (fun K hK => ?_)
          refine goes_ Tryd.func16 (by kernel_rfl) rfl #[(.agg #[.string x.key, .string x.second, .slice An x.names.length cn, .int .i64 x.asked, .int .i64 x.came, .int .i64 x.status, .slice Af (flds x.fields).length cf, .slice Ab x.body.length cb, .int .i64 x.gen]), .int .i64 0] (by rfl) rfl rfl (by (try simp only [List.map_toArray, List.map_cons, List.map_nil]); first | done | rfl) ?_
          refine (fits_any H6.out.1 HB.out 0).mono ?_
          rw [fits_zero]
          rintro e w7 ⟨rfl, hb7⟩
          have H7 : Fact (Ent (fun _ => False) w7 (.agg #[.string x.key, .string x.second, .slice An x.names.length cn, .int .i64 x.asked, .int .i64 x.came, .int .i64 x.status, .slice Af (flds x.fields).length cf, .slice Ab x.body.length cb, .int .i64 x.gen]) x ∧ Below w.heap.size w w7 ∧ w7.heap[w.heap.size]? = some (.cells #[.string x.key, .string x.second, .slice An x.names.length cn, .int .i64 x.asked, .int .i64 x.came, .int .i64 x.status, .slice Af (flds x.fields).length cf, .slice Ab x.body.length cb, .int .i64 x.gen] 27 (0, 0))) := ⟨H6.out.1.new hb7, next_new H6.out.2.1 hb7, (hb7.block _ (Array.getElem?_eq_some_iff.1 H6.out.2.2).1).trans H6.out.2.2⟩
          clear hb7 H6
          replace hHeld := nine H7.out.2.2
          refine ⟨_, rfl, ?_⟩
          refine hK.out _ _ hHeld (fun hxx => ?_)
          clear hK K hxx
          refine norm_ (a' := ?_) ?_ ?_
          rotate_left
          · show Act.put _ (some 76) _ = _
            simp only [Act.put, List.setIfInBounds_toArray, List.set_cons_zero, List.set_cons_succ, i64_w, i32_w]
            rfl
          refine pure_ (i := 8) (N := (some 77)) (v := ?_) (a' := ?_) #[true, true, true, true, true, true, true, true, true, false, false, false, false, false, false, false] rfl rfl (by kernel_rfl) (fun _ _ _ h => h) (Or.inl ⟨by rfl, ?_⟩) ?_ ?_
          rotate_left
          · intro w'
            go_simp
            with_reducible rfl
          rotate_left
          · simp only [Act.put, List.setIfInBounds_toArray, List.set_cons_zero, List.set_cons_succ, i64_w, i32_w]
            rfl
          refine pure_ (i := 9) (N := (some 78)) (v := ?_) (a' := ?_) #[true, true, true, true, true, true, true, true, true, true, false, false, false, false, false, false] rfl rfl (by kernel_rfl) (fun _ _ _ h => h) (Or.inl ⟨by rfl, ?_⟩) ?_ ?_
          rotate_left
          · intro w'
            go_simp
            with_reducible rfl
          rotate_left
          · simp only [Act.put, List.setIfInBounds_toArray, List.set_cons_zero, List.set_cons_succ, i64_w, i32_w]
            rfl
          refine pure_ (i := 10) (N := (some 79)) (v := ?_) (a' := ?_) #[true, true, true, true, true, true, true, true, true, true, true, false, false, false, false, false] rfl rfl (by kernel_rfl) (fun _ _ _ h => h) (Or.inl ⟨by rfl, ?_⟩) ?_ ?_
          rotate_left
          · intro w'
            go_simp
            with_reducible rfl
          rotate_left
          · simp only [Act.put, List.setIfInBounds_toArray, List.set_cons_zero, List.set_cons_succ, i64_w, i32_w]
            rfl
          refine take_ (i := 11) (N := (some 80)) (v := ?_) (a' := ?_) #[true, true, true, true, true, true, true, true, true, true, true, true, false, false, false, false] rfl rfl (by kernel_rfl) (fun _ _ _ h => h) (Or.inl ⟨by rfl, ?_⟩) hHeld ?_ ?_
          rotate_left
          · rintro w' ⟨s0, s1, s2, s3, s4, s5, s6, s7, s8⟩
            go_simp
            with_reducible rfl
          rotate_left
          · simp only [Act.put, List.setIfInBounds_toArray, List.set_cons_zero, List.set_cons_succ, i64_w, i32_w]
            rfl
          refine one_ (i := 12) (N := (some 81)) #[true, true, true, true, true, true, true, true, true, true, true, true, true, false, false, false] rfl rfl (by kernel_rfl) (by decide) (fun K hK => ?_)
          refine goes_ Tryd.func16 (by kernel_rfl) rfl #[(.agg #[.string x.key, .string x.second, .slice An x.names.length cn, .int .i64 x.asked, .int .i64 x.came, .int .i64 x.status, .slice Af (flds x.fields).length cf, .slice Ab x.body.length cb, .int .i64 x.gen]), .int .i64 4] (by rfl) rfl rfl (by (try simp only [List.map_toArray, List.map_cons, List.map_nil]); first | done | rfl) ?_
          refine (fits_any H7.out.1 HB.out 4).mono ?_
          rw [fits_four]
          rintro e w8 ⟨rfl, hb8⟩
          have H8 : Fact (Ent (fun _ => False) w8 (.agg #[.string x.key, .string x.second, .slice An x.names.length cn, .int .i64 x.asked, .int .i64 x.came, .int .i64 x.status, .slice Af (flds x.fields).length cf, .slice Ab x.body.length cb, .int .i64 x.gen]) x ∧ Below w.heap.size w w8 ∧ w8.heap[w.heap.size]? = some (.cells #[.string x.key, .string x.second, .slice An x.names.length cn, .int .i64 x.asked, .int .i64 x.came, .int .i64 x.status, .slice Af (flds x.fields).length cf, .slice Ab x.body.length cb, .int .i64 x.gen] 27 (0, 0))) := ⟨H7.out.1.new hb8, next_new H7.out.2.1 hb8, (hb8.block _ (Array.getElem?_eq_some_iff.1 H7.out.2.2).1).trans H7.out.2.2⟩
          clear hb8 H7
          replace hHeld := nine H8.out.2.2
          refine ⟨_, rfl, ?_⟩
          refine hK.out _ _ hHeld (fun hxx => ?_)
          clear hK K hxx
          refine norm_ (a' := ?_) ?_ ?_
          rotate_left
          · show Act.put _ (some 81) _ = _
            simp only [Act.put, List.setIfInBounds_toArray, List.set_cons_zero, List.set_cons_succ, i64_w, i32_w]
            rfl
          refine pure_ (i := 13) (N := (some 82)) (v := ?_) (a' := ?_) #[true, true, true, true, true, true, true, true, true, true, true, true, true, true, false, false] rfl rfl (by kernel_rfl) (fun _ _ _ h => h) (Or.inl ⟨by rfl, ?_⟩) ?_ ?_
          rotate_left
          · intro w'
            go_simp
            with_reducible rfl
          rotate_left
          · simp only [Act.put, List.setIfInBounds_toArray, List.set_cons_zero, List.set_cons_succ, i64_w, i32_w]
            rfl
          refine pure_ (i := 14) (N := (some 83)) (v := ?_) (a' := ?_) #[true, true, true, true, true, true, true, true, true, true, true, true, true, true, true, false] rfl rfl (by kernel_rfl) (fun _ _ _ h => h) (Or.inl ⟨by rfl, ?_⟩) ?_ ?_
          rotate_left
          · intro w'
            go_simp
            with_reducible rfl
          rotate_left
          · simp only [Act.put, List.setIfInBounds_toArray, List.set_cons_zero, List.set_cons_succ, i64_w, i32_w]
            rfl
          refine pure_ (i := 15) (N := (some 2)) (v := ?_) (a' := ?_) #[true, true, true, true, true, true, true, true, true, true, true, true, true, true, true, true] rfl rfl (by kernel_rfl) (fun _ _ _ h => h) (Or.inl ⟨by rfl, ?_⟩) ?_ ?_
          rotate_left
          · intro w'
            go_simp
            with_reducible rfl
          rotate_left
          · simp only [Act.put, List.setIfInBounds_toArray, List.set_cons_zero, List.set_cons_succ, i64_w, i32_w]
            rfl
          refine done_ (by kernel_rfl) ?_
          go_wp2_with fail
          go_ret
          exact ⟨rfl, H8.out.2.1⟩
      have hvi : (v : Int) ≤ 3 := by omega
      obtain ⟨x0, x1, x2, x3, x4, x5, x6, x7, x8⟩ := nine S.out.2.2
      by_cases h3 : v < 3
      rotate_left
      · have h3i : ¬ (v : Int) < 3 := by omega
        go_wp2_with fail
        refine (enc_any S.out.1 HB.out (v : Int)).mono ?_
        rintro e w5 ⟨vb, rfl, hR0, hb5⟩
        have H5 : Fact (Ent (fun _ => False) w5 (.agg #[.string x.key, .string x.second, .slice An x.names.length cn, .int .i64 x.asked, .int .i64 x.came, .int .i64 x.status, .slice Af (flds x.fields).length cf, .slice Ab x.body.length cb, .int .i64 x.gen]) x ∧ Below w.heap.size w w5 ∧ w5.heap[w.heap.size]? = some (.cells #[.string x.key, .string x.second, .slice An x.names.length cn, .int .i64 x.asked, .int .i64 x.came, .int .i64 x.status, .slice Af (flds x.fields).length cf, .slice Ab x.body.length cb, .int .i64 x.gen] 27 (0, 0))) := ⟨S.out.1.new hb5, next_new S.out.2.1 hb5, (hb5.block _ (Array.getElem?_eq_some_iff.1 S.out.2.2).1).trans S.out.2.2⟩
        clear hb5 S x0 x1 x2 x3 x4 x5 x6 x7 x8
        by_cases c4 : (encP (v : Int) x).2 = 0
        rotate_left
        · go_wp2_with fail
          exact ⟨⟨v + 1, by go_num, by omega, by omega, H5⟩, by simp [intOf]; omega⟩
        obtain ⟨he, hf5, hl5⟩ := encP_ok c4
        rw [he] at hR0
        rw [c4]
        have hL : (recOf (v : Int) (restP (v : Int) x)).length = 8 + (restP (v : Int) x).length := recOf_len _ _
        obtain ⟨g, cap, rfl, hg0, hg1, hcap, hR⟩ := bytes_form hR0 (by omega)
        clear hR0
        dsimp only at hcap hR ⊢
        have HTE : Fact (∀ u, turnP (recOf (v : Int) (restP (v : Int) x)) u = encP u x) := ⟨fun u => turn_enc hf5 HB.out.bytes hl5 u⟩
        have HEV := Fact.mk (encP_fits hf5 hl5)
        have HRg := Fact.mk (recOf_rng (v : Int) x)
        have HC := Fact.mk hcap
        have I1 : Fact (ReadB w5 (some ⟨g, 0, none⟩) (recOf (v : Int) (restP (v : Int) x)).length (recOf (v : Int) (restP (v : Int) x)) ∧ (Ent (fun _ => False) w5 (.agg #[.string x.key, .string x.second, .slice An x.names.length cn, .int .i64 x.asked, .int .i64 x.came, .int .i64 x.status, .slice Af (flds x.fields).length cf, .slice Ab x.body.length cb, .int .i64 x.gen]) x ∧ Below w.heap.size w w5 ∧ w5.heap[w.heap.size]? = some (.cells #[.string x.key, .string x.second, .slice An x.names.length cn, .int .i64 x.asked, .int .i64 x.came, .int .i64 x.status, .slice Af (flds x.fields).length cf, .slice Ab x.body.length cb, .int .i64 x.gen] 27 (0, 0)))) := ⟨(Kd.R_reads' hR).2.2, H5.out⟩
        generalize recOf (v : Int) (restP (v : Int) x) = L at *
        clear hL hR hg0 hg1 hcap he hf5 hl5 c4 H5
        go_wp2_with fail
        go_loopw [6] (fun v6 wr2 => ∃ u : Nat, v6 = .int .i64 (u : Int) ∧ 1 ≤ u ∧ u ≤ 4 ∧ Fact (ReadB wr2 (some ⟨g, 0, none⟩) L.length L ∧ (Ent (fun _ => False) wr2 (.agg #[.string x.key, .string x.second, .slice An x.names.length cn, .int .i64 x.asked, .int .i64 x.came, .int .i64 x.status, .slice Af (flds x.fields).length cf, .slice Ab x.body.length cb, .int .i64 x.gen]) x ∧ Below w.heap.size w wr2 ∧ wr2.heap[w.heap.size]? = some (.cells #[.string x.key, .string x.second, .slice An x.names.length cn, .int .i64 x.asked, .int .i64 x.came, .int .i64 x.status, .slice Af (flds x.fields).length cf, .slice Ab x.body.length cb, .int .i64 x.gen] 27 (0, 0))))) (fun v _ => 4 - (intOf v).toNat)
        case atStart => exact ⟨1, rfl, by omega, by omega, I1⟩
        case round =>
          clear I1
          rename World => wr2
          obtain ⟨u, rfl, hu1, hu4, S2⟩ := hrel
          by_cases hu : u ≤ 3
          rotate_left
          · have hui : ¬ (u : Int) ≤ 3 := by omega
            go_wp2_with fail
            exact ⟨⟨v + 1, by go_num, by omega, by omega, ⟨S2.out.2⟩⟩, by simp [intOf]; omega⟩
          have hui : (u : Int) ≤ 3 := by omega
          by_cases c5 : (encP (u : Int) x).2 = 0
          rotate_left
          · go_wp2_with fail
            refine (turn_any S2.out.1 HC.out HRg.out (u : Int)).mono ?_
            rw [HTE.out]
            rintro e w6 ⟨vb, rfl, -, hb6⟩
            have HS6 := Fact.mk (Kd.C_below S2.out.1 hb6)
            have H6 : Fact (Ent (fun _ => False) w6 (.agg #[.string x.key, .string x.second, .slice An x.names.length cn, .int .i64 x.asked, .int .i64 x.came, .int .i64 x.status, .slice Af (flds x.fields).length cf, .slice Ab x.body.length cb, .int .i64 x.gen]) x ∧ Below w.heap.size w w6 ∧ w6.heap[w.heap.size]? = some (.cells #[.string x.key, .string x.second, .slice An x.names.length cn, .int .i64 x.asked, .int .i64 x.came, .int .i64 x.status, .slice Af (flds x.fields).length cf, .slice Ab x.body.length cb, .int .i64 x.gen] 27 (0, 0))) := ⟨S2.out.2.1.new hb6, next_new S2.out.2.2.1 hb6, (hb6.block _ (Array.getElem?_eq_some_iff.1 S2.out.2.2.2).1).trans S2.out.2.2.2⟩
            clear hb6 S2
            go_wp2_with fail
            exact ⟨⟨u + 1, by go_num, by omega, by omega, ⟨HS6.out, H6.out⟩⟩, by simp [intOf]; omega⟩
          obtain ⟨he6, hf6, hl6⟩ := encP_ok c5
          have HT6 : Fact (turnP (recOf (u : Int) (restP (u : Int) x)) (v : Int) = (L, 0)) := ⟨by rw [turn_enc hf6 HB.out.bytes hl6, HEV.out]⟩
          have HE6 := Fact.mk (encP_fits hf6 hl6)
          have HRg6 := Fact.mk (recOf_rng (u : Int) x)
          have hp6 : 0 < (recOf (u : Int) (restP (u : Int) x)).length := by rw [recOf_len]; omega
          generalize recOf (u : Int) (restP (u : Int) x) = L6 at *
          clear he6 hf6 hl6 c5
          go_wp2_with fail
          refine (turn_any S2.out.1 HC.out HRg.out (u : Int)).mono ?_
          rw [HTE.out, HE6.out]
          rintro e w6 ⟨vb, rfl, hR6, hb6⟩
          obtain ⟨g6, c6, rfl, -, -, hc6, hR6⟩ := bytes_form hR6 hp6
          dsimp only at hc6 hR6 ⊢
          have HR6 := Fact.mk (Kd.R_reads' hR6).2.2
          have HC6 := Fact.mk hc6
          have HS6 := Fact.mk (Kd.C_below S2.out.1 hb6)
          have H6 : Fact (Ent (fun _ => False) w6 (.agg #[.string x.key, .string x.second, .slice An x.names.length cn, .int .i64 x.asked, .int .i64 x.came, .int .i64 x.status, .slice Af (flds x.fields).length cf, .slice Ab x.body.length cb, .int .i64 x.gen]) x ∧ Below w.heap.size w w6 ∧ w6.heap[w.heap.size]? = some (.cells #[.string x.key, .string x.second, .slice An x.names.length cn, .int .i64 x.asked, .int .i64 x.came, .int .i64 x.status, .slice Af (flds x.fields).length cf, .slice Ab x.body.length cb, .int .i64 x.gen] 27 (0, 0))) := ⟨S2.out.2.1.new hb6, next_new S2.out.2.2.1 hb6, (hb6.block _ (Array.getElem?_eq_some_iff.1 S2.out.2.2.2).1).trans S2.out.2.2.2⟩
          clear hb6 S2 hR6 hc6 HE6
          clear hR6
          go_wp2_with fail
          refine (turn_any HR6.out HC6.out HRg6.out (v : Int)).mono ?_
          rw [HT6.out]
          rintro e w7 ⟨vb, rfl, hR7, hb7⟩
          obtain ⟨A7, c7, rfl, -, hr7⟩ := Kd.R_reads hR7
          dsimp only at hr7 ⊢
          have HS7 := Fact.mk (Kd.C_below HS6.out hb7)
          have cv1 := bytes_str (c := c7) hr7
          have cv2 := bytes_str (c := cap) HS7.out
          have H7 : Fact (Ent (fun _ => False) w7 (.agg #[.string x.key, .string x.second, .slice An x.names.length cn, .int .i64 x.asked, .int .i64 x.came, .int .i64 x.status, .slice Af (flds x.fields).length cf, .slice Ab x.body.length cb, .int .i64 x.gen]) x ∧ Below w.heap.size w w7 ∧ w7.heap[w.heap.size]? = some (.cells #[.string x.key, .string x.second, .slice An x.names.length cn, .int .i64 x.asked, .int .i64 x.came, .int .i64 x.status, .slice Af (flds x.fields).length cf, .slice Ab x.body.length cb, .int .i64 x.gen] 27 (0, 0))) := ⟨H6.out.1.new hb7, next_new H6.out.2.1 hb7, (hb7.block _ (Array.getElem?_eq_some_iff.1 H6.out.2.2).1).trans H6.out.2.2⟩
          clear hb7 H6 HS6 HR6 hR7 hr7 HT6
          go_wp2_with fail
          exact ⟨⟨u + 1, by go_num, by omega, by omega, ⟨HS7.out, H7.out⟩⟩, by simp [intOf]; omega⟩
      have h3i : (v : Int) < 3 := by omega
      go_wp2_with fail
      refine (fits_any S.out.1 HB.out (v : Int)).mono ?_
      rintro e w4 ⟨rfl, hb4⟩
      have H4 : Fact (Ent (fun _ => False) w4 (.agg #[.string x.key, .string x.second, .slice An x.names.length cn, .int .i64 x.asked, .int .i64 x.came, .int .i64 x.status, .slice Af (flds x.fields).length cf, .slice Ab x.body.length cb, .int .i64 x.gen]) x ∧ Below w.heap.size w w4 ∧ w4.heap[w.heap.size]? = some (.cells #[.string x.key, .string x.second, .slice An x.names.length cn, .int .i64 x.asked, .int .i64 x.came, .int .i64 x.status, .slice Af (flds x.fields).length cf, .slice Ab x.body.length cb, .int .i64 x.gen] 27 (0, 0))) := ⟨S.out.1.new hb4, next_new S.out.2.1 hb4, (hb4.block _ (Array.getElem?_eq_some_iff.1 S.out.2.2).1).trans S.out.2.2⟩
      clear hb4 S x0 x1 x2 x3 x4 x5 x6 x7 x8
      obtain ⟨x0, x1, x2, x3, x4, x5, x6, x7, x8⟩ := nine H4.out.2.2
      cases hf : fitsP x (v : Int) with
      | false =>
        go_wp2_with fail
        refine (enc_any H4.out.1 HB.out (v : Int)).mono ?_
        rintro e w5 ⟨vb, rfl, hR0, hb5⟩
        have H5 : Fact (Ent (fun _ => False) w5 (.agg #[.string x.key, .string x.second, .slice An x.names.length cn, .int .i64 x.asked, .int .i64 x.came, .int .i64 x.status, .slice Af (flds x.fields).length cf, .slice Ab x.body.length cb, .int .i64 x.gen]) x ∧ Below w.heap.size w w5 ∧ w5.heap[w.heap.size]? = some (.cells #[.string x.key, .string x.second, .slice An x.names.length cn, .int .i64 x.asked, .int .i64 x.came, .int .i64 x.status, .slice Af (flds x.fields).length cf, .slice Ab x.body.length cb, .int .i64 x.gen] 27 (0, 0))) := ⟨H4.out.1.new hb5, next_new H4.out.2.1 hb5, (hb5.block _ (Array.getElem?_eq_some_iff.1 H4.out.2.2).1).trans H4.out.2.2⟩
        clear hb5 H4 x0 x1 x2 x3 x4 x5 x6 x7 x8
        by_cases c4 : (encP (v : Int) x).2 = 0
        rotate_left
        · go_wp2_with fail
          exact ⟨⟨v + 1, by go_num, by omega, by omega, H5⟩, by simp [intOf]; omega⟩
        obtain ⟨he, hf5, hl5⟩ := encP_ok c4
        rw [he] at hR0
        rw [c4]
        have hL : (recOf (v : Int) (restP (v : Int) x)).length = 8 + (restP (v : Int) x).length := recOf_len _ _
        obtain ⟨g, cap, rfl, hg0, hg1, hcap, hR⟩ := bytes_form hR0 (by omega)
        clear hR0
        dsimp only at hcap hR ⊢
        have HTE : Fact (∀ u, turnP (recOf (v : Int) (restP (v : Int) x)) u = encP u x) := ⟨fun u => turn_enc hf5 HB.out.bytes hl5 u⟩
        have HEV := Fact.mk (encP_fits hf5 hl5)
        have HRg := Fact.mk (recOf_rng (v : Int) x)
        have HC := Fact.mk hcap
        have I1 : Fact (ReadB w5 (some ⟨g, 0, none⟩) (recOf (v : Int) (restP (v : Int) x)).length (recOf (v : Int) (restP (v : Int) x)) ∧ (Ent (fun _ => False) w5 (.agg #[.string x.key, .string x.second, .slice An x.names.length cn, .int .i64 x.asked, .int .i64 x.came, .int .i64 x.status, .slice Af (flds x.fields).length cf, .slice Ab x.body.length cb, .int .i64 x.gen]) x ∧ Below w.heap.size w w5 ∧ w5.heap[w.heap.size]? = some (.cells #[.string x.key, .string x.second, .slice An x.names.length cn, .int .i64 x.asked, .int .i64 x.came, .int .i64 x.status, .slice Af (flds x.fields).length cf, .slice Ab x.body.length cb, .int .i64 x.gen] 27 (0, 0)))) := ⟨(Kd.R_reads' hR).2.2, H5.out⟩
        generalize recOf (v : Int) (restP (v : Int) x) = L at *
        clear hL hR hg0 hg1 hcap he hf5 hl5 c4 H5
        go_wp2_with fail
        go_loopw [6] (fun v6 wr2 => ∃ u : Nat, v6 = .int .i64 (u : Int) ∧ 1 ≤ u ∧ u ≤ 4 ∧ Fact (ReadB wr2 (some ⟨g, 0, none⟩) L.length L ∧ (Ent (fun _ => False) wr2 (.agg #[.string x.key, .string x.second, .slice An x.names.length cn, .int .i64 x.asked, .int .i64 x.came, .int .i64 x.status, .slice Af (flds x.fields).length cf, .slice Ab x.body.length cb, .int .i64 x.gen]) x ∧ Below w.heap.size w wr2 ∧ wr2.heap[w.heap.size]? = some (.cells #[.string x.key, .string x.second, .slice An x.names.length cn, .int .i64 x.asked, .int .i64 x.came, .int .i64 x.status, .slice Af (flds x.fields).length cf, .slice Ab x.body.length cb, .int .i64 x.gen] 27 (0, 0))))) (fun v _ => 4 - (intOf v).toNat)
        case atStart => exact ⟨1, rfl, by omega, by omega, I1⟩
        case round =>
          clear I1
          rename World => wr2
          obtain ⟨u, rfl, hu1, hu4, S2⟩ := hrel
          by_cases hu : u ≤ 3
          rotate_left
          · have hui : ¬ (u : Int) ≤ 3 := by omega
            go_wp2_with fail
            exact ⟨⟨v + 1, by go_num, by omega, by omega, ⟨S2.out.2⟩⟩, by simp [intOf]; omega⟩
          have hui : (u : Int) ≤ 3 := by omega
          by_cases c5 : (encP (u : Int) x).2 = 0
          rotate_left
          · go_wp2_with fail
            refine (turn_any S2.out.1 HC.out HRg.out (u : Int)).mono ?_
            rw [HTE.out]
            rintro e w6 ⟨vb, rfl, -, hb6⟩
            have HS6 := Fact.mk (Kd.C_below S2.out.1 hb6)
            have H6 : Fact (Ent (fun _ => False) w6 (.agg #[.string x.key, .string x.second, .slice An x.names.length cn, .int .i64 x.asked, .int .i64 x.came, .int .i64 x.status, .slice Af (flds x.fields).length cf, .slice Ab x.body.length cb, .int .i64 x.gen]) x ∧ Below w.heap.size w w6 ∧ w6.heap[w.heap.size]? = some (.cells #[.string x.key, .string x.second, .slice An x.names.length cn, .int .i64 x.asked, .int .i64 x.came, .int .i64 x.status, .slice Af (flds x.fields).length cf, .slice Ab x.body.length cb, .int .i64 x.gen] 27 (0, 0))) := ⟨S2.out.2.1.new hb6, next_new S2.out.2.2.1 hb6, (hb6.block _ (Array.getElem?_eq_some_iff.1 S2.out.2.2.2).1).trans S2.out.2.2.2⟩
            clear hb6 S2
            go_wp2_with fail
            exact ⟨⟨u + 1, by go_num, by omega, by omega, ⟨HS6.out, H6.out⟩⟩, by simp [intOf]; omega⟩
          obtain ⟨he6, hf6, hl6⟩ := encP_ok c5
          have HT6 : Fact (turnP (recOf (u : Int) (restP (u : Int) x)) (v : Int) = (L, 0)) := ⟨by rw [turn_enc hf6 HB.out.bytes hl6, HEV.out]⟩
          have HE6 := Fact.mk (encP_fits hf6 hl6)
          have HRg6 := Fact.mk (recOf_rng (u : Int) x)
          have hp6 : 0 < (recOf (u : Int) (restP (u : Int) x)).length := by rw [recOf_len]; omega
          generalize recOf (u : Int) (restP (u : Int) x) = L6 at *
          clear he6 hf6 hl6 c5
          go_wp2_with fail
          refine (turn_any S2.out.1 HC.out HRg.out (u : Int)).mono ?_
          rw [HTE.out, HE6.out]
          rintro e w6 ⟨vb, rfl, hR6, hb6⟩
          obtain ⟨g6, c6, rfl, -, -, hc6, hR6⟩ := bytes_form hR6 hp6
          dsimp only at hc6 hR6 ⊢
          have HR6 := Fact.mk (Kd.R_reads' hR6).2.2
          have HC6 := Fact.mk hc6
          have HS6 := Fact.mk (Kd.C_below S2.out.1 hb6)
          have H6 : Fact (Ent (fun _ => False) w6 (.agg #[.string x.key, .string x.second, .slice An x.names.length cn, .int .i64 x.asked, .int .i64 x.came, .int .i64 x.status, .slice Af (flds x.fields).length cf, .slice Ab x.body.length cb, .int .i64 x.gen]) x ∧ Below w.heap.size w w6 ∧ w6.heap[w.heap.size]? = some (.cells #[.string x.key, .string x.second, .slice An x.names.length cn, .int .i64 x.asked, .int .i64 x.came, .int .i64 x.status, .slice Af (flds x.fields).length cf, .slice Ab x.body.length cb, .int .i64 x.gen] 27 (0, 0))) := ⟨S2.out.2.1.new hb6, next_new S2.out.2.2.1 hb6, (hb6.block _ (Array.getElem?_eq_some_iff.1 S2.out.2.2.2).1).trans S2.out.2.2.2⟩
          clear hb6 S2 hR6 hc6 HE6
          clear hR6
          go_wp2_with fail
          refine (turn_any HR6.out HC6.out HRg6.out (v : Int)).mono ?_
          rw [HT6.out]
          rintro e w7 ⟨vb, rfl, hR7, hb7⟩
          obtain ⟨A7, c7, rfl, -, hr7⟩ := Kd.R_reads hR7
          dsimp only at hr7 ⊢
          have HS7 := Fact.mk (Kd.C_below HS6.out hb7)
          have cv1 := bytes_str (c := c7) hr7
          have cv2 := bytes_str (c := cap) HS7.out
          have H7 : Fact (Ent (fun _ => False) w7 (.agg #[.string x.key, .string x.second, .slice An x.names.length cn, .int .i64 x.asked, .int .i64 x.came, .int .i64 x.status, .slice Af (flds x.fields).length cf, .slice Ab x.body.length cb, .int .i64 x.gen]) x ∧ Below w.heap.size w w7 ∧ w7.heap[w.heap.size]? = some (.cells #[.string x.key, .string x.second, .slice An x.names.length cn, .int .i64 x.asked, .int .i64 x.came, .int .i64 x.status, .slice Af (flds x.fields).length cf, .slice Ab x.body.length cb, .int .i64 x.gen] 27 (0, 0))) := ⟨H6.out.1.new hb7, next_new H6.out.2.1 hb7, (hb7.block _ (Array.getElem?_eq_some_iff.1 H6.out.2.2).1).trans H6.out.2.2⟩
          clear hb7 H6 HS6 HR6 hR7 hr7 HT6
          go_wp2_with fail
          exact ⟨⟨u + 1, by go_num, by omega, by omega, ⟨HS7.out, H7.out⟩⟩, by simp [intOf]; omega⟩
      | true =>
        go_wp2_with fail
        refine (fits_any H4.out.1 HB.out ((v : Int) + 1)).mono ?_
        rw [fits_up hf h3i]
        rintro e w8 ⟨rfl, hb8⟩
        have H8 : Fact (Ent (fun _ => False) w8 (.agg #[.string x.key, .string x.second, .slice An x.names.length cn, .int .i64 x.asked, .int .i64 x.came, .int .i64 x.status, .slice Af (flds x.fields).length cf, .slice Ab x.body.length cb, .int .i64 x.gen]) x ∧ Below w.heap.size w w8 ∧ w8.heap[w.heap.size]? = some (.cells #[.string x.key, .string x.second, .slice An x.names.length cn, .int .i64 x.asked, .int .i64 x.came, .int .i64 x.status, .slice Af (flds x.fields).length cf, .slice Ab x.body.length cb, .int .i64 x.gen] 27 (0, 0))) := ⟨H4.out.1.new hb8, next_new H4.out.2.1 hb8, (hb8.block _ (Array.getElem?_eq_some_iff.1 H4.out.2.2).1).trans H4.out.2.2⟩
        clear hb8 H4 x0 x1 x2 x3 x4 x5 x6 x7 x8
        obtain ⟨x0, x1, x2, x3, x4, x5, x6, x7, x8⟩ := nine H8.out.2.2
        go_wp2_with fail
        refine (enc_any H8.out.1 HB.out (v : Int)).mono ?_
        rintro e w5 ⟨vb, rfl, hR0, hb5⟩
        have H5 : Fact (Ent (fun _ => False) w5 (.agg #[.string x.key, .string x.second, .slice An x.names.length cn, .int .i64 x.asked, .int .i64 x.came, .int .i64 x.status, .slice Af (flds x.fields).length cf, .slice Ab x.body.length cb, .int .i64 x.gen]) x ∧ Below w.heap.size w w5 ∧ w5.heap[w.heap.size]? = some (.cells #[.string x.key, .string x.second, .slice An x.names.length cn, .int .i64 x.asked, .int .i64 x.came, .int .i64 x.status, .slice Af (flds x.fields).length cf, .slice Ab x.body.length cb, .int .i64 x.gen] 27 (0, 0))) := ⟨H8.out.1.new hb5, next_new H8.out.2.1 hb5, (hb5.block _ (Array.getElem?_eq_some_iff.1 H8.out.2.2).1).trans H8.out.2.2⟩
        clear hb5 H8 x0 x1 x2 x3 x4 x5 x6 x7 x8
        by_cases c4 : (encP (v : Int) x).2 = 0
        rotate_left
        · go_wp2_with fail
          exact ⟨⟨v + 1, by go_num, by omega, by omega, H5⟩, by simp [intOf]; omega⟩
        obtain ⟨he, hf5, hl5⟩ := encP_ok c4
        rw [he] at hR0
        rw [c4]
        have hL : (recOf (v : Int) (restP (v : Int) x)).length = 8 + (restP (v : Int) x).length := recOf_len _ _
        obtain ⟨g, cap, rfl, hg0, hg1, hcap, hR⟩ := bytes_form hR0 (by omega)
        clear hR0
        dsimp only at hcap hR ⊢
        have HTE : Fact (∀ u, turnP (recOf (v : Int) (restP (v : Int) x)) u = encP u x) := ⟨fun u => turn_enc hf5 HB.out.bytes hl5 u⟩
        have HEV := Fact.mk (encP_fits hf5 hl5)
        have HRg := Fact.mk (recOf_rng (v : Int) x)
        have HC := Fact.mk hcap
        have I1 : Fact (ReadB w5 (some ⟨g, 0, none⟩) (recOf (v : Int) (restP (v : Int) x)).length (recOf (v : Int) (restP (v : Int) x)) ∧ (Ent (fun _ => False) w5 (.agg #[.string x.key, .string x.second, .slice An x.names.length cn, .int .i64 x.asked, .int .i64 x.came, .int .i64 x.status, .slice Af (flds x.fields).length cf, .slice Ab x.body.length cb, .int .i64 x.gen]) x ∧ Below w.heap.size w w5 ∧ w5.heap[w.heap.size]? = some (.cells #[.string x.key, .string x.second, .slice An x.names.length cn, .int .i64 x.asked, .int .i64 x.came, .int .i64 x.status, .slice Af (flds x.fields).length cf, .slice Ab x.body.length cb, .int .i64 x.gen] 27 (0, 0)))) := ⟨(Kd.R_reads' hR).2.2, H5.out⟩
        generalize recOf (v : Int) (restP (v : Int) x) = L at *
        clear hL hR hg0 hg1 hcap he hf5 hl5 c4 H5
        go_wp2_with fail
        go_loopw [6] (fun v6 wr2 => ∃ u : Nat, v6 = .int .i64 (u : Int) ∧ 1 ≤ u ∧ u ≤ 4 ∧ Fact (ReadB wr2 (some ⟨g, 0, none⟩) L.length L ∧ (Ent (fun _ => False) wr2 (.agg #[.string x.key, .string x.second, .slice An x.names.length cn, .int .i64 x.asked, .int .i64 x.came, .int .i64 x.status, .slice Af (flds x.fields).length cf, .slice Ab x.body.length cb, .int .i64 x.gen]) x ∧ Below w.heap.size w wr2 ∧ wr2.heap[w.heap.size]? = some (.cells #[.string x.key, .string x.second, .slice An x.names.length cn, .int .i64 x.asked, .int .i64 x.came, .int .i64 x.status, .slice Af (flds x.fields).length cf, .slice Ab x.body.length cb, .int .i64 x.gen] 27 (0, 0))))) (fun v _ => 4 - (intOf v).toNat)
        case atStart => exact ⟨1, rfl, by omega, by omega, I1⟩
        case round =>
          clear I1
          rename World => wr2
          obtain ⟨u, rfl, hu1, hu4, S2⟩ := hrel
          by_cases hu : u ≤ 3
          rotate_left
          · have hui : ¬ (u : Int) ≤ 3 := by omega
            go_wp2_with fail
            exact ⟨⟨v + 1, by go_num, by omega, by omega, ⟨S2.out.2⟩⟩, by simp [intOf]; omega⟩
          have hui : (u : Int) ≤ 3 := by omega
          by_cases c5 : (encP (u : Int) x).2 = 0
          rotate_left
          · go_wp2_with fail
            refine (turn_any S2.out.1 HC.out HRg.out (u : Int)).mono ?_
            rw [HTE.out]
            rintro e w6 ⟨vb, rfl, -, hb6⟩
            have HS6 := Fact.mk (Kd.C_below S2.out.1 hb6)
            have H6 : Fact (Ent (fun _ => False) w6 (.agg #[.string x.key, .string x.second, .slice An x.names.length cn, .int .i64 x.asked, .int .i64 x.came, .int .i64 x.status, .slice Af (flds x.fields).length cf, .slice Ab x.body.length cb, .int .i64 x.gen]) x ∧ Below w.heap.size w w6 ∧ w6.heap[w.heap.size]? = some (.cells #[.string x.key, .string x.second, .slice An x.names.length cn, .int .i64 x.asked, .int .i64 x.came, .int .i64 x.status, .slice Af (flds x.fields).length cf, .slice Ab x.body.length cb, .int .i64 x.gen] 27 (0, 0))) := ⟨S2.out.2.1.new hb6, next_new S2.out.2.2.1 hb6, (hb6.block _ (Array.getElem?_eq_some_iff.1 S2.out.2.2.2).1).trans S2.out.2.2.2⟩
            clear hb6 S2
            go_wp2_with fail
            exact ⟨⟨u + 1, by go_num, by omega, by omega, ⟨HS6.out, H6.out⟩⟩, by simp [intOf]; omega⟩
          obtain ⟨he6, hf6, hl6⟩ := encP_ok c5
          have HT6 : Fact (turnP (recOf (u : Int) (restP (u : Int) x)) (v : Int) = (L, 0)) := ⟨by rw [turn_enc hf6 HB.out.bytes hl6, HEV.out]⟩
          have HE6 := Fact.mk (encP_fits hf6 hl6)
          have HRg6 := Fact.mk (recOf_rng (u : Int) x)
          have hp6 : 0 < (recOf (u : Int) (restP (u : Int) x)).length := by rw [recOf_len]; omega
          generalize recOf (u : Int) (restP (u : Int) x) = L6 at *
          clear he6 hf6 hl6 c5
          go_wp2_with fail
          refine (turn_any S2.out.1 HC.out HRg.out (u : Int)).mono ?_
          rw [HTE.out, HE6.out]
          rintro e w6 ⟨vb, rfl, hR6, hb6⟩
          obtain ⟨g6, c6, rfl, -, -, hc6, hR6⟩ := bytes_form hR6 hp6
          dsimp only at hc6 hR6 ⊢
          have HR6 := Fact.mk (Kd.R_reads' hR6).2.2
          have HC6 := Fact.mk hc6
          have HS6 := Fact.mk (Kd.C_below S2.out.1 hb6)
          have H6 : Fact (Ent (fun _ => False) w6 (.agg #[.string x.key, .string x.second, .slice An x.names.length cn, .int .i64 x.asked, .int .i64 x.came, .int .i64 x.status, .slice Af (flds x.fields).length cf, .slice Ab x.body.length cb, .int .i64 x.gen]) x ∧ Below w.heap.size w w6 ∧ w6.heap[w.heap.size]? = some (.cells #[.string x.key, .string x.second, .slice An x.names.length cn, .int .i64 x.asked, .int .i64 x.came, .int .i64 x.status, .slice Af (flds x.fields).length cf, .slice Ab x.body.length cb, .int .i64 x.gen] 27 (0, 0))) := ⟨S2.out.2.1.new hb6, next_new S2.out.2.2.1 hb6, (hb6.block _ (Array.getElem?_eq_some_iff.1 S2.out.2.2.2).1).trans S2.out.2.2.2⟩
          clear hb6 S2 hR6 hc6 HE6
          clear hR6
          go_wp2_with fail
          refine (turn_any HR6.out HC6.out HRg6.out (v : Int)).mono ?_
          rw [HT6.out]
          rintro e w7 ⟨vb, rfl, hR7, hb7⟩
          obtain ⟨A7, c7, rfl, -, hr7⟩ := Kd.R_reads hR7
          dsimp only at hr7 ⊢
          have HS7 := Fact.mk (Kd.C_below HS6.out hb7)
          have cv1 := bytes_str (c := c7) hr7
          have cv2 := bytes_str (c := cap) HS7.out
          have H7 : Fact (Ent (fun _ => False) w7 (.agg #[.string x.key, .string x.second, .slice An x.names.length cn, .int .i64 x.asked, .int .i64 x.came, .int .i64 x.status, .slice Af (flds x.fields).length cf, .slice Ab x.body.length cb, .int .i64 x.gen]) x ∧ Below w.heap.size w w7 ∧ w7.heap[w.heap.size]? = some (.cells #[.string x.key, .string x.second, .slice An x.names.length cn, .int .i64 x.asked, .int .i64 x.came, .int .i64 x.status, .slice Af (flds x.fields).length cf, .slice Ab x.body.length cb, .int .i64 x.gen] 27 (0, 0))) := ⟨H6.out.1.new hb7, next_new H6.out.2.1 hb7, (hb7.block _ (Array.getElem?_eq_some_iff.1 H6.out.2.2).1).trans H6.out.2.2⟩
          clear hb7 H6 HS6 HR6 hR7 hr7 HT6
          go_wp2_with fail
          exact ⟨⟨u + 1, by go_num, by omega, by omega, ⟨HS7.out, H7.out⟩⟩, by simp [intOf]; omega⟩
end Go.Proofs.YtllnleokjcimhaaDoor.En
