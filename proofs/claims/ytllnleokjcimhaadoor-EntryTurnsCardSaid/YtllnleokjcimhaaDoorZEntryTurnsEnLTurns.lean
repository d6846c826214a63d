import Derived.Test.YtllnleokjcimhaaDoorZEntryTurnsEnOpen
/-
The law EntryTurns: any record, turned through any versions, is the same entry at the end, or stopped at the first version that can't have it.
-/
namespace Go.Proofs.YtllnleokjcimhaaDoor.En
open Go.RowKit Go.Maps Go.Proofs.YtllnleokjcimhaaDoorW.PrintWords Go.Proofs.YtllnleokjcimhaaDoorW.PrintLast Go.Proofs.YtllnleokjcimhaaDoorW.PrintMore Go.Proofs.YtllnleokjcimhaaDoor.P Go.Proofs.YtllnleokjcimhaaDoor.Pure
set_option linter.unusedVariables false
set_option linter.unusedSimpArgs false
theorem turn_enc {x : PE} {v0 : Int} (h : fitsP x v0 = true) (hbd : ∀ c ∈ x.body, 0 ≤ c ∧ c < 256) (hl : (restP v0 x).length ≤ 3992) (v : Int) : turnP (recOf v0 (restP v0 x)) v = encP v x := by
  unfold turnP
  rw [dec_enc x v0 h hbd hl]
  rfl
set_option maxHeartbeats 4000000 in
set_option maxRecDepth 100000 in
theorem EntryTurns_true (w : World) (ve : Value) (x : PE) (hE : Ent (fun _ => False) w ve x) (hG : Good x) (first : Int) (hfirst : (Lit.int .i64 first).wf = true)
    (Aw : Option Addr) (cw : Nat) (way : List Int) (hway : Kd.C (Kd.int .i64) w Aw way.length way) (hcw : way.length ≤ cw) {pw : Prop} (_ : pw) :
    Calls Tryd.prog 8 #[ve, .int .i64 first, .slice Aw way.length cw] w fun e w' => e = .returned (.bool true) ∧ Below w.heap.size w w' := by
  clear hfirst
  have HWay : Fact (∀ W, Below w.heap.size w W → Kd.C (Kd.int .i64) W Aw way.length way) := ⟨fun W hb => Kd.C_below hway hb⟩
  clear hway
  obtain ⟨vn, vf, vb, rfl, ⟨An, cn, rfl, hcn, hrn⟩, ⟨Af, cf, rfl, hcf, hrf⟩, ⟨Ab, cb, rfl, hcb, hrb⟩⟩ := hE
  have H0 : Fact (Ent (fun _ => False) w (.agg #[.string x.key, .string x.second, .slice An x.names.length cn, .int .i64 x.asked, .int .i64 x.came, .int .i64 x.status, .slice Af (flds x.fields).length cf, .slice Ab x.body.length cb, .int .i64 x.gen]) x) := ⟨⟨_, _, _, rfl, ⟨An, cn, rfl, hcn, hrn⟩, ⟨Af, cf, rfl, hcf, hrf⟩, ⟨Ab, cb, rfl, hcb, hrb⟩⟩⟩
  have HG := Fact.mk hG
  clear hrn hrf hrb hG
  go_enter Tryd.func8, Tryd.ntmps8
  go_wp2_with fail
  have H1 : Fact (Ent (fun _ => False) (w.alloc (.cells #[.string x.key, .string x.second, .slice An x.names.length cn, .int .i64 x.asked, .int .i64 x.came, .int .i64 x.status, .slice Af (flds x.fields).length cf, .slice Ab x.body.length cb, .int .i64 x.gen] 27)) (.agg #[.string x.key, .string x.second, .slice An x.names.length cn, .int .i64 x.asked, .int .i64 x.came, .int .i64 x.status, .slice Af (flds x.fields).length cf, .slice Ab x.body.length cb, .int .i64 x.gen]) x ∧ Below w.heap.size w (w.alloc (.cells #[.string x.key, .string x.second, .slice An x.names.length cn, .int .i64 x.asked, .int .i64 x.came, .int .i64 x.status, .slice Af (flds x.fields).length cf, .slice Ab x.body.length cb, .int .i64 x.gen] 27)) ∧ (w.alloc (.cells #[.string x.key, .string x.second, .slice An x.names.length cn, .int .i64 x.asked, .int .i64 x.came, .int .i64 x.status, .slice Af (flds x.fields).length cf, .slice Ab x.body.length cb, .int .i64 x.gen] 27)).heap[w.heap.size]? = some (.cells #[.string x.key, .string x.second, .slice An x.names.length cn, .int .i64 x.asked, .int .i64 x.came, .int .i64 x.status, .slice Af (flds x.fields).length cf, .slice Ab x.body.length cb, .int .i64 x.gen] 27 (0, 0))) := ⟨H0.out.new ((Below.refl _ _).alloc (Nat.le_refl _) _), (Below.refl _ _).alloc (Nat.le_refl _) _, heap_alloc_new w _⟩
  clear H0
  generalize w.alloc (.cells #[.string x.key, .string x.second, .slice An x.names.length cn, .int .i64 x.asked, .int .i64 x.came, .int .i64 x.status, .slice Af (flds x.fields).length cf, .slice Ab x.body.length cb, .int .i64 x.gen] 27) = wa at *
  refine (anchor_any wa).mono ?_
  rintro e w1 ⟨rfl, hb1⟩
  have H2 : Fact (Ent (fun _ => False) w1 (.agg #[.string x.key, .string x.second, .slice An x.names.length cn, .int .i64 x.asked, .int .i64 x.came, .int .i64 x.status, .slice Af (flds x.fields).length cf, .slice Ab x.body.length cb, .int .i64 x.gen]) x ∧ Below w.heap.size w w1 ∧ w1.heap[w.heap.size]? = some (.cells #[.string x.key, .string x.second, .slice An x.names.length cn, .int .i64 x.asked, .int .i64 x.came, .int .i64 x.status, .slice Af (flds x.fields).length cf, .slice Ab x.body.length cb, .int .i64 x.gen] 27 (0, 0))) := ⟨H1.out.1.new hb1, next_new H1.out.2.1 hb1, (hb1.block _ (Array.getElem?_eq_some_iff.1 H1.out.2.2).1).trans H1.out.2.2⟩
  clear hb1 H1
  clear wa
  obtain ⟨x0, x1, x2, x3, x4, x5, x6, x7, x8⟩ := nine H2.out.2.2
  go_wp2_with fail
  refine (small_any H2.out.1 HG.out.names HG.out.fields).mono ?_
  rintro e w2 ⟨rfl, hb2⟩
  have H3 : Fact (Ent (fun _ => False) w2 (.agg #[.string x.key, .string x.second, .slice An x.names.length cn, .int .i64 x.asked, .int .i64 x.came, .int .i64 x.status, .slice Af (flds x.fields).length cf, .slice Ab x.body.length cb, .int .i64 x.gen]) x ∧ Below w.heap.size w w2 ∧ w2.heap[w.heap.size]? = some (.cells #[.string x.key, .string x.second, .slice An x.names.length cn, .int .i64 x.asked, .int .i64 x.came, .int .i64 x.status, .slice Af (flds x.fields).length cf, .slice Ab x.body.length cb, .int .i64 x.gen] 27 (0, 0))) := ⟨H2.out.1.new hb2, next_new H2.out.2.1 hb2, (hb2.block _ (Array.getElem?_eq_some_iff.1 H2.out.2.2).1).trans H2.out.2.2⟩
  clear hb2 H2 x0 x1 x2 x3 x4 x5 x6 x7 x8
  clear w1
  cases hsm : smallP x with
  | false =>
    go_wp2_with fail
    go_ret
    exact ⟨rfl, H3.out.2.1⟩
  | true =>
    have HB := Fact.mk (smallP_bnd hsm HG.out.bytes)
    clear hsm
    by_cases c1 : (20 : Int) < (way.length : Int)
    · go_wp2_with fail
      go_ret
      exact ⟨rfl, H3.out.2.1⟩
    obtain ⟨x0, x1, x2, x3, x4, x5, x6, x7, x8⟩ := nine H3.out.2.2
    go_wp2_with fail
    refine (enc_any H3.out.1 HB.out first).mono ?_
    rintro e w3 ⟨vb, rfl, hR0, hb3⟩
    have H4 : Fact (Ent (fun _ => False) w3 (.agg #[.string x.key, .string x.second, .slice An x.names.length cn, .int .i64 x.asked, .int .i64 x.came, .int .i64 x.status, .slice Af (flds x.fields).length cf, .slice Ab x.body.length cb, .int .i64 x.gen]) x ∧ Below w.heap.size w w3 ∧ w3.heap[w.heap.size]? = some (.cells #[.string x.key, .string x.second, .slice An x.names.length cn, .int .i64 x.asked, .int .i64 x.came, .int .i64 x.status, .slice Af (flds x.fields).length cf, .slice Ab x.body.length cb, .int .i64 x.gen] 27 (0, 0))) := ⟨H3.out.1.new hb3, next_new H3.out.2.1 hb3, (hb3.block _ (Array.getElem?_eq_some_iff.1 H3.out.2.2).1).trans H3.out.2.2⟩
    have HW2 : Fact (w.heap.size < w2.heap.size) := ⟨(Array.getElem?_eq_some_iff.1 H3.out.2.2).1⟩
    clear hb3 H3 x0 x1 x2 x3 x4 x5 x6 x7 x8
    by_cases c4 : (encP first x).2 = 0
    rotate_left
    · go_wp2_with fail
      go_ret
      exact ⟨rfl, H4.out.2.1⟩
    obtain ⟨he, hf, hl⟩ := encP_ok c4
    rw [he] at hR0
    rw [c4]
    obtain ⟨hr, hv, -, -⟩ := fitsP_right hf
    have hL : (recOf first (restP first x)).length = 8 + (restP first x).length := recOf_len _ _
    obtain ⟨g, cap, rfl, hg0, hg1, hcap, hR⟩ := bytes_form hR0 (by omega)
    clear hR0
    dsimp only at hcap hR ⊢
    have hGR := recOf_rng first x
    have I0 : Fact ((∃ v0, recOf first (restP first x) = recOf v0 (restP v0 x) ∧ fitsP x v0 = true ∧ (restP v0 x).length ≤ 3992) ∧ (recOf first (restP first x)).length ≤ cap ∧ ReadB w3 (some ⟨g, 0, none⟩) (recOf first (restP first x)).length (recOf first (restP first x)) ∧ (Ent (fun _ => False) w3 (.agg #[.string x.key, .string x.second, .slice An x.names.length cn, .int .i64 x.asked, .int .i64 x.came, .int .i64 x.status, .slice Af (flds x.fields).length cf, .slice Ab x.body.length cb, .int .i64 x.gen]) x ∧ Below w.heap.size w w3 ∧ w3.heap[w.heap.size]? = some (.cells #[.string x.key, .string x.second, .slice An x.names.length cn, .int .i64 x.asked, .int .i64 x.came, .int .i64 x.status, .slice Af (flds x.fields).length cf, .slice Ab x.body.length cb, .int .i64 x.gen] 27 (0, 0)))) :=
      ⟨⟨first, rfl, hf, hl⟩, hcap, (Kd.R_reads' hR).2.2, H4.out⟩
    generalize recOf first (restP first x) = L0 at *
    clear hL hR hf hl hr hv hGR he c4 H4 hg0 hg1 hcap
    go_wp2_with fail
    go_loopw [7, 36] (fun v7 v36 wr => ∃ (j : Nat) (L : List Int) (g cap : Nat), v7 = .slice (some ⟨g, 0, none⟩) L.length cap ∧ v36 = .int .i64 (j : Int) ∧ j ≤ way.length ∧ Fact ((∃ v0, L = recOf v0 (restP v0 x) ∧ fitsP x v0 = true ∧ (restP v0 x).length ≤ 3992) ∧ L.length ≤ cap ∧ ReadB wr (some ⟨g, 0, none⟩) L.length L ∧ (Ent (fun _ => False) wr (.agg #[.string x.key, .string x.second, .slice An x.names.length cn, .int .i64 x.asked, .int .i64 x.came, .int .i64 x.status, .slice Af (flds x.fields).length cf, .slice Ab x.body.length cb, .int .i64 x.gen]) x ∧ Below w.heap.size w wr ∧ wr.heap[w.heap.size]? = some (.cells #[.string x.key, .string x.second, .slice An x.names.length cn, .int .i64 x.asked, .int .i64 x.came, .int .i64 x.status, .slice Af (flds x.fields).length cf, .slice Ab x.body.length cb, .int .i64 x.gen] 27 (0, 0))))) (fun _ v _ => way.length - (intOf v).toNat)
    case atStart => exact ⟨0, L0, g, cap, rfl, rfl, Nat.zero_le _, I0⟩
    case round =>
      clear I0
      obtain ⟨j, L, g, cap, rfl, rfl, hj, S⟩ := hrel
      by_cases hlt : j < way.length
      rotate_left
      · have hlt2 : ¬ ((j : Int) < (way.length : Int)) := by omega
        go_wp2_with fail
        go_ret
        exact ⟨rfl, S.out.2.2.2.2.1⟩
      have hlt2 : (j : Int) < (way.length : Int) := by omega
      obtain ⟨ad, eA, hx⟩ := Kd.at_int (HWay.out wr S.out.2.2.2.2.1) (j : Int) (by omega) hlt2
      subst eA
      simp only [Int.toNat_natCast] at hx
      revert hx
      generalize rd way (j : Int) = v
      intro hx
      have HTE : Fact (turnP L v = encP v x) := by
        obtain ⟨v0, rfl, h1, h2⟩ := S.out.1
        exact ⟨turn_enc h1 HB.out.bytes h2 v⟩
      have HRg : Fact (∀ c ∈ L, 0 ≤ c ∧ c < 256) := by
        obtain ⟨v0, rfl, h1, h2⟩ := S.out.1
        exact ⟨recOf_rng v0 x⟩
      have hfr : Fact (rightP x = true) := by
        obtain ⟨v0, rfl, h1, h2⟩ := S.out.1
        exact ⟨(fitsP_right h1).1⟩
      have HT := Fact.mk (turn_any S.out.2.2.1 S.out.2.1 HRg.out v)
      by_cases d1 : v < 1 ∨ 3 < v
      · have he : encP v x = ([], 50) := by unfold encP; rw [if_pos d1]
        rcases d1 with d1 | d1 <;>
        · go_wp2_with fail
          refine HT.out.mono ?_
          rw [HTE.out, he]
          rintro e w5 ⟨vb, rfl, -, hb5⟩
          have HS5 := Fact.mk (Kd.C_below S.out.2.2.1 hb5)
          have H5 : Fact (Ent (fun _ => False) w5 (.agg #[.string x.key, .string x.second, .slice An x.names.length cn, .int .i64 x.asked, .int .i64 x.came, .int .i64 x.status, .slice Af (flds x.fields).length cf, .slice Ab x.body.length cb, .int .i64 x.gen]) x ∧ Below w.heap.size w w5 ∧ w5.heap[w.heap.size]? = some (.cells #[.string x.key, .string x.second, .slice An x.names.length cn, .int .i64 x.asked, .int .i64 x.came, .int .i64 x.status, .slice Af (flds x.fields).length cf, .slice Ab x.body.length cb, .int .i64 x.gen] 27 (0, 0))) := ⟨S.out.2.2.2.1.new hb5, next_new S.out.2.2.2.2.1 hb5, (hb5.block _ (Array.getElem?_eq_some_iff.1 S.out.2.2.2.2.2).1).trans S.out.2.2.2.2.2⟩
          clear hb5 HT hx
          go_wp2_with fail
          exact ⟨⟨j + 1, L, g, cap, rfl, by go_num, by omega, ⟨S.out.1, S.out.2.1, HS5.out, H5.out⟩⟩, by simp [intOf]; omega⟩
      have he0 : encP v x = (if fitsP x v = false then ([], 51) else if 3992 < (restP v x).length then ([], 23) else (recOf v (restP v x), 0)) := by
        unfold encP; rw [if_neg d1, if_neg (by rw [hfr.out]; decide)]
      have d1a : ¬ v < 1 := fun h => d1 (.inl h)
      have d1b : ¬ 3 < v := fun h => d1 (.inr h)
      by_cases d2 : fitsP x v = true
      rotate_left
      · have d2 : fitsP x v = false := by simpa using d2
        have he : encP v x = ([], 51) := by rw [he0, if_pos d2]
        clear he0 d1
        go_wp2_with fail
        refine HT.out.mono ?_
        rw [HTE.out, he]
        rintro e w5 ⟨vb, rfl, hR5, hb5⟩
        obtain ⟨A5, c5, rfl, -, -⟩ := Kd.R_reads hR5
        dsimp only [List.length_nil]
        have HS5 := Fact.mk (Kd.C_below S.out.2.2.1 hb5)
        have H5 : Fact (Ent (fun _ => False) w5 (.agg #[.string x.key, .string x.second, .slice An x.names.length cn, .int .i64 x.asked, .int .i64 x.came, .int .i64 x.status, .slice Af (flds x.fields).length cf, .slice Ab x.body.length cb, .int .i64 x.gen]) x ∧ Below w.heap.size w w5 ∧ w5.heap[w.heap.size]? = some (.cells #[.string x.key, .string x.second, .slice An x.names.length cn, .int .i64 x.asked, .int .i64 x.came, .int .i64 x.status, .slice Af (flds x.fields).length cf, .slice Ab x.body.length cb, .int .i64 x.gen] 27 (0, 0))) := ⟨S.out.2.2.2.1.new hb5, next_new S.out.2.2.2.2.1 hb5, (hb5.block _ (Array.getElem?_eq_some_iff.1 S.out.2.2.2.2.2).1).trans S.out.2.2.2.2.2⟩
        clear hb5 HT hx hR5
        obtain ⟨x0, x1, x2, x3, x4, x5, x6, x7, x8⟩ := nine H5.out.2.2
        go_wp2_with fail
        refine (fits_any H5.out.1 HB.out v).mono ?_
        rw [d2]
        rintro e w6 ⟨rfl, hb6⟩
        have HS6 := Fact.mk (Kd.C_below HS5.out hb6)
        have H6 : Fact (Ent (fun _ => False) w6 (.agg #[.string x.key, .string x.second, .slice An x.names.length cn, .int .i64 x.asked, .int .i64 x.came, .int .i64 x.status, .slice Af (flds x.fields).length cf, .slice Ab x.body.length cb, .int .i64 x.gen]) x ∧ Below w.heap.size w w6 ∧ w6.heap[w.heap.size]? = some (.cells #[.string x.key, .string x.second, .slice An x.names.length cn, .int .i64 x.asked, .int .i64 x.came, .int .i64 x.status, .slice Af (flds x.fields).length cf, .slice Ab x.body.length cb, .int .i64 x.gen] 27 (0, 0))) := ⟨H5.out.1.new hb6, next_new H5.out.2.1 hb6, (hb6.block _ (Array.getElem?_eq_some_iff.1 H5.out.2.2).1).trans H5.out.2.2⟩
        clear hb6 HS5 H5 x0 x1 x2 x3 x4 x5 x6 x7 x8
        go_wp2_with fail
        exact ⟨⟨j + 1, L, g, cap, rfl, by go_num, by omega, ⟨S.out.1, S.out.2.1, HS6.out, H6.out⟩⟩, by simp [intOf]; omega⟩
      rw [if_neg (by rw [d2]; decide)] at he0
      by_cases d3 : 3992 < (restP v x).length
      · rw [if_pos d3] at he0
        clear d1
        go_wp2_with fail
        refine HT.out.mono ?_
        rw [HTE.out, he0]
        rintro e w5 ⟨vb, rfl, hR5, hb5⟩
        have HS5 := Fact.mk (Kd.C_below S.out.2.2.1 hb5)
        have H5 : Fact (Ent (fun _ => False) w5 (.agg #[.string x.key, .string x.second, .slice An x.names.length cn, .int .i64 x.asked, .int .i64 x.came, .int .i64 x.status, .slice Af (flds x.fields).length cf, .slice Ab x.body.length cb, .int .i64 x.gen]) x ∧ Below w.heap.size w w5 ∧ w5.heap[w.heap.size]? = some (.cells #[.string x.key, .string x.second, .slice An x.names.length cn, .int .i64 x.asked, .int .i64 x.came, .int .i64 x.status, .slice Af (flds x.fields).length cf, .slice Ab x.body.length cb, .int .i64 x.gen] 27 (0, 0))) := ⟨S.out.2.2.2.1.new hb5, next_new S.out.2.2.2.2.1 hb5, (hb5.block _ (Array.getElem?_eq_some_iff.1 S.out.2.2.2.2.2).1).trans S.out.2.2.2.2.2⟩
        clear hb5 HT hx hR5
        obtain ⟨x0, x1, x2, x3, x4, x5, x6, x7, x8⟩ := nine H5.out.2.2
        go_wp2_with fail
        refine (fits_any H5.out.1 HB.out v).mono ?_
        rw [d2]
        rintro e w6 ⟨rfl, hb6⟩
        have HS6 := Fact.mk (Kd.C_below HS5.out hb6)
        have H6 : Fact (Ent (fun _ => False) w6 (.agg #[.string x.key, .string x.second, .slice An x.names.length cn, .int .i64 x.asked, .int .i64 x.came, .int .i64 x.status, .slice Af (flds x.fields).length cf, .slice Ab x.body.length cb, .int .i64 x.gen]) x ∧ Below w.heap.size w w6 ∧ w6.heap[w.heap.size]? = some (.cells #[.string x.key, .string x.second, .slice An x.names.length cn, .int .i64 x.asked, .int .i64 x.came, .int .i64 x.status, .slice Af (flds x.fields).length cf, .slice Ab x.body.length cb, .int .i64 x.gen] 27 (0, 0))) := ⟨H5.out.1.new hb6, next_new H5.out.2.1 hb6, (hb6.block _ (Array.getElem?_eq_some_iff.1 H5.out.2.2).1).trans H5.out.2.2⟩
        clear hb6 HS5 H5 x0 x1 x2 x3 x4 x5 x6 x7 x8
        go_wp2_with fail
        exact ⟨⟨j + 1, L, g, cap, rfl, by go_num, by omega, ⟨S.out.1, S.out.2.1, HS6.out, H6.out⟩⟩, by simp [intOf]; omega⟩
      rw [if_neg d3] at he0
      clear d1
      have hl5 : (restP v x).length ≤ 3992 := Nat.le_of_not_lt d3
      have HDE := Fact.mk (dec_enc x v d2 HB.out.bytes hl5)
      have HRG := Fact.mk (recOf_rng v x)
      have HNew : Fact (∃ v0, recOf v (restP v x) = recOf v0 (restP v0 x) ∧ fitsP x v0 = true ∧ (restP v0 x).length ≤ 3992) := ⟨v, rfl, d2, hl5⟩
      have hp5 : 0 < (recOf v (restP v x)).length := by rw [recOf_len]; omega
      generalize recOf v (restP v x) = L5 at *
      go_wp2_with fail
      refine HT.out.mono ?_
      rw [HTE.out, he0]
      rintro e w5 ⟨vb, rfl, hR5, hb5⟩
      obtain ⟨g5, c5, rfl, hg50, hg51, hc5, hR5⟩ := bytes_form hR5 hp5
      dsimp only at hc5 hR5 ⊢
      have HR5 := Fact.mk (Kd.R_reads' hR5).2.2
      have HC5 := Fact.mk hc5
      have H5 : Fact (Ent (fun _ => False) w5 (.agg #[.string x.key, .string x.second, .slice An x.names.length cn, .int .i64 x.asked, .int .i64 x.came, .int .i64 x.status, .slice Af (flds x.fields).length cf, .slice Ab x.body.length cb, .int .i64 x.gen]) x ∧ Below w.heap.size w w5 ∧ w5.heap[w.heap.size]? = some (.cells #[.string x.key, .string x.second, .slice An x.names.length cn, .int .i64 x.asked, .int .i64 x.came, .int .i64 x.status, .slice Af (flds x.fields).length cf, .slice Ab x.body.length cb, .int .i64 x.gen] 27 (0, 0))) := ⟨S.out.2.2.2.1.new hb5, next_new S.out.2.2.2.2.1 hb5, (hb5.block _ (Array.getElem?_eq_some_iff.1 S.out.2.2.2.2.2).1).trans S.out.2.2.2.2.2⟩
      clear hb5 HT hx hR5 hg50 hg51 hc5 HTE he0 d3 hl5
      clear hR5
      obtain ⟨x0, x1, x2, x3, x4, x5, x6, x7, x8⟩ := nine H5.out.2.2
      go_wp2_with fail
      refine (fits_any H5.out.1 HB.out v).mono ?_
      rw [d2]
      rintro e w6 ⟨rfl, hb6⟩
      have HS6 := Fact.mk (Kd.C_below HR5.out hb6)
      have H6 : Fact (Ent (fun _ => False) w6 (.agg #[.string x.key, .string x.second, .slice An x.names.length cn, .int .i64 x.asked, .int .i64 x.came, .int .i64 x.status, .slice Af (flds x.fields).length cf, .slice Ab x.body.length cb, .int .i64 x.gen]) x ∧ Below w.heap.size w w6 ∧ w6.heap[w.heap.size]? = some (.cells #[.string x.key, .string x.second, .slice An x.names.length cn, .int .i64 x.asked, .int .i64 x.came, .int .i64 x.status, .slice Af (flds x.fields).length cf, .slice Ab x.body.length cb, .int .i64 x.gen] 27 (0, 0))) := ⟨H5.out.1.new hb6, next_new H5.out.2.1 hb6, (hb6.block _ (Array.getElem?_eq_some_iff.1 H5.out.2.2).1).trans H5.out.2.2⟩
      clear hb6 HR5 H5 x0 x1 x2 x3 x4 x5 x6 x7 x8
      go_wp2_with fail
      have hd := dec_any (w := w6) (A := some ⟨g5, 0, none⟩) (c := c5) (l := L5) HS6.out HC5.out HRG.out
      rw [HDE.out] at hd
      refine hd.mono ?_
      clear hd
      dsimp only
      rintro e w7 ⟨ve, rfl, ⟨vn, vf, vb, rfl, ⟨An2, cn2, rfl, hcn2, hrn2⟩, ⟨Af2, cf2, rfl, hcf2, hrf2⟩, ⟨Ab2, cb2, rfl, hcb2, hrb2⟩⟩, hb7⟩
      have b8 : Below w7.heap.size w7 (w7.alloc (.cells #[.string x.key, .string x.second, .slice An2 x.names.length cn2, .int .i64 x.asked, .int .i64 x.came, .int .i64 x.status, .slice Af2 (flds x.fields).length cf2, .slice Ab2 x.body.length cb2, .int .i64 x.gen] 27)) := (Below.refl _ _).alloc (Nat.le_refl _) _
      have b7 : Below w6.heap.size w6 (w7.alloc (.cells #[.string x.key, .string x.second, .slice An2 x.names.length cn2, .int .i64 x.asked, .int .i64 x.came, .int .i64 x.status, .slice Af2 (flds x.fields).length cf2, .slice Ab2 x.body.length cb2, .int .i64 x.gen] 27)) := next_new hb7 b8
      have H8 : Fact (Ent (fun k => k < w6.heap.size) (w7.alloc (.cells #[.string x.key, .string x.second, .slice An2 x.names.length cn2, .int .i64 x.asked, .int .i64 x.came, .int .i64 x.status, .slice Af2 (flds x.fields).length cf2, .slice Ab2 x.body.length cb2, .int .i64 x.gen] 27)) (.agg #[.string x.key, .string x.second, .slice An2 x.names.length cn2, .int .i64 x.asked, .int .i64 x.came, .int .i64 x.status, .slice Af2 (flds x.fields).length cf2, .slice Ab2 x.body.length cb2, .int .i64 x.gen]) x ∧ (Ent (fun _ => False) (w7.alloc (.cells #[.string x.key, .string x.second, .slice An2 x.names.length cn2, .int .i64 x.asked, .int .i64 x.came, .int .i64 x.status, .slice Af2 (flds x.fields).length cf2, .slice Ab2 x.body.length cb2, .int .i64 x.gen] 27)) (.agg #[.string x.key, .string x.second, .slice An x.names.length cn, .int .i64 x.asked, .int .i64 x.came, .int .i64 x.status, .slice Af (flds x.fields).length cf, .slice Ab x.body.length cb, .int .i64 x.gen]) x ∧ Below w.heap.size w (w7.alloc (.cells #[.string x.key, .string x.second, .slice An2 x.names.length cn2, .int .i64 x.asked, .int .i64 x.came, .int .i64 x.status, .slice Af2 (flds x.fields).length cf2, .slice Ab2 x.body.length cb2, .int .i64 x.gen] 27)) ∧ (w7.alloc (.cells #[.string x.key, .string x.second, .slice An2 x.names.length cn2, .int .i64 x.asked, .int .i64 x.came, .int .i64 x.status, .slice Af2 (flds x.fields).length cf2, .slice Ab2 x.body.length cb2, .int .i64 x.gen] 27)).heap[w.heap.size]? = some (.cells #[.string x.key, .string x.second, .slice An x.names.length cn, .int .i64 x.asked, .int .i64 x.came, .int .i64 x.status, .slice Af (flds x.fields).length cf, .slice Ab x.body.length cb, .int .i64 x.gen] 27 (0, 0))) ∧ (w7.alloc (.cells #[.string x.key, .string x.second, .slice An2 x.names.length cn2, .int .i64 x.asked, .int .i64 x.came, .int .i64 x.status, .slice Af2 (flds x.fields).length cf2, .slice Ab2 x.body.length cb2, .int .i64 x.gen] 27)).heap[w7.heap.size]? = some (.cells #[.string x.key, .string x.second, .slice An2 x.names.length cn2, .int .i64 x.asked, .int .i64 x.came, .int .i64 x.status, .slice Af2 (flds x.fields).length cf2, .slice Ab2 x.body.length cb2, .int .i64 x.gen] 27 (0, 0)) ∧ ReadB (w7.alloc (.cells #[.string x.key, .string x.second, .slice An2 x.names.length cn2, .int .i64 x.asked, .int .i64 x.came, .int .i64 x.status, .slice Af2 (flds x.fields).length cf2, .slice Ab2 x.body.length cb2, .int .i64 x.gen] 27)) (some ⟨g5, 0, none⟩) L5.length L5) :=
        ⟨EntK.new ⟨_, _, _, rfl, ⟨An2, cn2, rfl, hcn2, hrn2⟩, ⟨Af2, cf2, rfl, hcf2, hrf2⟩, ⟨Ab2, cb2, rfl, hcb2, hrb2⟩⟩ b8, ⟨H6.out.1.new b7, next_new H6.out.2.1 b7, (b7.block _ (Array.getElem?_eq_some_iff.1 H6.out.2.2).1).trans H6.out.2.2⟩, heap_alloc_new w7 _, Kd.C_below HS6.out b7⟩
      clear hrn2 hrf2 hrb2 hb7 b8 b7 H6 HS6 HDE HRG S hfr
      obtain ⟨x0, x1, x2, x3, x4, x5, x6, x7, x8⟩ := nine H8.out.2.1.2.2
      obtain ⟨y0, y1, y2, y3, y4, y5, y6, y7, y8⟩ := nine H8.out.2.2.1
      go_wp2_with fail
      refine (same_any H8.out.1 H8.out.2.1.1 HB.out).mono ?_
      rw [sameP_self]
      rintro e w9 ⟨rfl, hb9⟩
      have HS9 := Fact.mk (Kd.C_below H8.out.2.2.2 hb9)
      have H9 : Fact (Ent (fun _ => False) w9 (.agg #[.string x.key, .string x.second, .slice An x.names.length cn, .int .i64 x.asked, .int .i64 x.came, .int .i64 x.status, .slice Af (flds x.fields).length cf, .slice Ab x.body.length cb, .int .i64 x.gen]) x ∧ Below w.heap.size w w9 ∧ w9.heap[w.heap.size]? = some (.cells #[.string x.key, .string x.second, .slice An x.names.length cn, .int .i64 x.asked, .int .i64 x.came, .int .i64 x.status, .slice Af (flds x.fields).length cf, .slice Ab x.body.length cb, .int .i64 x.gen] 27 (0, 0))) := ⟨H8.out.2.1.1.new hb9, next_new H8.out.2.1.2.1 hb9, (hb9.block _ (Array.getElem?_eq_some_iff.1 H8.out.2.1.2.2).1).trans H8.out.2.1.2.2⟩
      clear hb9 H8 x0 x1 x2 x3 x4 x5 x6 x7 x8 y0 y1 y2 y3 y4 y5 y6 y7 y8
      go_wp2_with fail
      exact ⟨⟨j + 1, L5, g5, c5, rfl, by go_num, by omega, ⟨HNew.out, HC5.out, HS9.out, H9.out⟩⟩, by simp [intOf]; omega⟩
end Go.Proofs.YtllnleokjcimhaaDoor.En
