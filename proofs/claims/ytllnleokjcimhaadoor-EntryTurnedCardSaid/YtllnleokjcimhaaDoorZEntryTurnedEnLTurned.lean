import Derived.Test.YtllnleokjcimhaaDoorZEntryTurnedEnOpen
/-
The law EntryTurned: a byte of the rest that is turned is found.
-/
namespace Go.Proofs.YtllnleokjcimhaaDoor.En
open Go.RowKit Go.Maps Go.Proofs.YtllnleokjcimhaaDoorW.PrintWords Go.Proofs.YtllnleokjcimhaaDoorW.PrintLast Go.Proofs.YtllnleokjcimhaaDoorW.PrintMore Go.Proofs.YtllnleokjcimhaaDoor.P Go.Proofs.YtllnleokjcimhaaDoor.Pure
set_option linter.unusedVariables false
set_option linter.unusedSimpArgs false
set_option maxHeartbeats 4000000 in
set_option maxRecDepth 100000 in
theorem EntryTurned_true (w : World) (ve : Value) (x : PE) (hE : Ent (fun _ => False) w ve x) (hG : Good x) (ver : Int) (hver : (Lit.int .i64 ver).wf = true) (pos : Int) (hpos : (Lit.int .i64 pos).wf = true) (t : Int) (ht : (Lit.int .i64 t).wf = true) :
    Calls Tryd.prog 6 #[ve, .int .i64 ver, .int .i64 pos, .int .i64 t] w fun e w' => e = .returned (.bool true) ∧ Below w.heap.size w w' := by
  replace hpos := wf_range hpos
  replace ht := wf_range ht
  clear hver
  obtain ⟨vn, vf, vb, rfl, ⟨An, cn, rfl, hcn, hrn⟩, ⟨Af, cf, rfl, hcf, hrf⟩, ⟨Ab, cb, rfl, hcb, hrb⟩⟩ := hE
  have H0 : Fact (Ent (fun _ => False) w (.agg #[.string x.key, .string x.second, .slice An x.names.length cn, .int .i64 x.asked, .int .i64 x.came, .int .i64 x.status, .slice Af (flds x.fields).length cf, .slice Ab x.body.length cb, .int .i64 x.gen]) x) := ⟨⟨_, _, _, rfl, ⟨An, cn, rfl, hcn, hrn⟩, ⟨Af, cf, rfl, hcf, hrf⟩, ⟨Ab, cb, rfl, hcb, hrb⟩⟩⟩
  have HG := Fact.mk hG
  clear hrn hrf hrb hG
  go_enter Tryd.func6, Tryd.ntmps6
  go_wp2_with fail
  have H1 : Fact (Ent (fun _ => False) (w.alloc (.cells #[.string x.key, .string x.second, .slice An x.names.length cn, .int .i64 x.asked, .int .i64 x.came, .int .i64 x.status, .slice Af (flds x.fields).length cf, .slice Ab x.body.length cb, .int .i64 x.gen] 27)) (.agg #[.string x.key, .string x.second, .slice An x.names.length cn, .int .i64 x.asked, .int .i64 x.came, .int .i64 x.status, .slice Af (flds x.fields).length cf, .slice Ab x.body.length cb, .int .i64 x.gen]) x ∧ Below w.heap.size w (w.alloc (.cells #[.string x.key, .string x.second, .slice An x.names.length cn, .int .i64 x.asked, .int .i64 x.came, .int .i64 x.status, .slice Af (flds x.fields).length cf, .slice Ab x.body.length cb, .int .i64 x.gen] 27)) ∧ (w.alloc (.cells #[.string x.key, .string x.second, .slice An x.names.length cn, .int .i64 x.asked, .int .i64 x.came, .int .i64 x.status, .slice Af (flds x.fields).length cf, .slice Ab x.body.length cb, .int .i64 x.gen] 27)).heap[w.heap.size]? = some (.cells #[.string x.key, .string x.second, .slice An x.names.length cn, .int .i64 x.asked, .int .i64 x.came, .int .i64 x.status, .slice Af (flds x.fields).length cf, .slice Ab x.body.length cb, .int .i64 x.gen] 27 (0, 0))) := ⟨H0.out.new ((Below.refl _ _).alloc (Nat.le_refl _) _), (Below.refl _ _).alloc (Nat.le_refl _) _, heap_alloc_new w _⟩
  clear H0
  generalize w.alloc (.cells #[.string x.key, .string x.second, .slice An x.names.length cn, .int .i64 x.asked, .int .i64 x.came, .int .i64 x.status, .slice Af (flds x.fields).length cf, .slice Ab x.body.length cb, .int .i64 x.gen] 27) = wa at *
  refine (anchor_any wa).mono ?_
  rintro e w1 ⟨rfl, hb1⟩
  have H2 : Fact (Ent (fun _ => False) w1 (.agg #[.string x.key, .string x.second, .slice An x.names.length cn, .int .i64 x.asked, .int .i64 x.came, .int .i64 x.status, .slice Af (flds x.fields).length cf, .slice Ab x.body.length cb, .int .i64 x.gen]) x ∧ Below w.heap.size w w1 ∧ w1.heap[w.heap.size]? = some (.cells #[.string x.key, .string x.second, .slice An x.names.length cn, .int .i64 x.asked, .int .i64 x.came, .int .i64 x.status, .slice Af (flds x.fields).length cf, .slice Ab x.body.length cb, .int .i64 x.gen] 27 (0, 0))) := ⟨H1.out.1.new hb1, next_new H1.out.2.1 hb1, (hb1.block _ (Array.getElem?_eq_some_iff.1 H1.out.2.2).1).trans H1.out.2.2⟩
  clear hb1 H1
  clear wa
  obtain ⟨x0, x1, x2, x3, x4, x5, x6, x7, x8⟩ := nine H2.out.2.2
  go_wp2_with fail
  refine (small_any H2.out.1 HG.out.names HG.out.fields).mono ?_
  rintro e w2 ⟨rfl, hb2⟩
  have H3 : Fact (Ent (fun _ => False) w2 (.agg #[.string x.key, .string x.second, .slice An x.names.length cn, .int .i64 x.asked, .int .i64 x.came, .int .i64 x.status, .slice Af (flds x.fields).length cf, .slice Ab x.body.length cb, .int .i64 x.gen]) x ∧ Below w.heap.size w w2 ∧ w2.heap[w.heap.size]? = some (.cells #[.string x.key, .string x.second, .slice An x.names.length cn, .int .i64 x.asked, .int .i64 x.came, .int .i64 x.status, .slice Af (flds x.fields).length cf, .slice Ab x.body.length cb, .int .i64 x.gen] 27 (0, 0))) := ⟨H2.out.1.new hb2, next_new H2.out.2.1 hb2, (hb2.block _ (Array.getElem?_eq_some_iff.1 H2.out.2.2).1).trans H2.out.2.2⟩
  clear hb2 H2 x0 x1 x2 x3 x4 x5 x6 x7 x8
  clear w1
  cases hsm : smallP x with
  | false =>
    go_wp2_with fail
    go_ret
    exact ⟨rfl, H3.out.2.1⟩
  | true =>
    have HB := Fact.mk (smallP_bnd hsm HG.out.bytes)
    clear hsm
    by_cases c1 : pos < 0
    · go_wp2_with fail
      go_ret
      exact ⟨rfl, H3.out.2.1⟩
    by_cases c2 : t < 1
    · go_wp2_with fail
      go_ret
      exact ⟨rfl, H3.out.2.1⟩
    by_cases c3 : 255 < t
    · go_wp2_with fail
      go_ret
      exact ⟨rfl, H3.out.2.1⟩
    obtain ⟨x0, x1, x2, x3, x4, x5, x6, x7, x8⟩ := nine H3.out.2.2
    go_wp2_with fail
    refine (enc_any H3.out.1 HB.out ver).mono ?_
    rintro e w3 ⟨vb, rfl, hR, hb3⟩
    have H4 : Fact (Ent (fun _ => False) w3 (.agg #[.string x.key, .string x.second, .slice An x.names.length cn, .int .i64 x.asked, .int .i64 x.came, .int .i64 x.status, .slice Af (flds x.fields).length cf, .slice Ab x.body.length cb, .int .i64 x.gen]) x ∧ Below w.heap.size w w3 ∧ w3.heap[w.heap.size]? = some (.cells #[.string x.key, .string x.second, .slice An x.names.length cn, .int .i64 x.asked, .int .i64 x.came, .int .i64 x.status, .slice Af (flds x.fields).length cf, .slice Ab x.body.length cb, .int .i64 x.gen] 27 (0, 0))) := ⟨H3.out.1.new hb3, next_new H3.out.2.1 hb3, (hb3.block _ (Array.getElem?_eq_some_iff.1 H3.out.2.2).1).trans H3.out.2.2⟩
    have HW2 : Fact (w.heap.size < w2.heap.size) := ⟨(Array.getElem?_eq_some_iff.1 H3.out.2.2).1⟩
    clear hb3 H3 x0 x1 x2 x3 x4 x5 x6 x7 x8
    by_cases c4 : (encP ver x).2 = 0
    · obtain ⟨he, hf, hl⟩ := encP_ok c4
      rw [he] at hR
      rw [c4]
      obtain ⟨hr, hv, -, -⟩ := fitsP_right hf
      have hL : (recOf ver (restP ver x)).length = 8 + (restP ver x).length := recOf_len _ _
      obtain ⟨g, cap, rfl, hg0, hg1, hcap, hR⟩ := bytes_form hR (by omega)
      dsimp only at hcap hR ⊢
      have HT := Fact.mk (fun i h4 hi y h1 h2 => dec_turned ver (restP ver x) hv (restP_rng ver x) hl i h4 hi y h1 h2)
      have HG := Fact.mk (recOf_rng ver x)
      generalize recOf ver (restP ver x) = L at *
      have HR := Fact.mk hR
      clear hR
      have ht1 : 0 ≤ t := by omega
      have ht2 : t < 256 := by omega
      have ht3 : t ≠ 0 := by omega
      obtain ⟨n, hn⟩ : ∃ n, L.length = n := ⟨_, rfl⟩
      have hn1 : n ≤ 4000 := by rw [← hn, hL]; exact Nat.add_le_add_left hl 8
      have hn2 : 8 ≤ n := by rw [← hn, hL]; exact Nat.le_add_right _ _
      obtain ⟨q, hq⟩ := Int.eq_ofNat_of_zero_le (Int.emod_nonneg pos (show (n : Int) - 4 ≠ 0 by omega))
      have hq1 := Int.emod_lt_of_pos pos (show (0 : Int) < (n : Int) - 4 by omega)
      rw [hq] at hq1
      obtain ⟨i, hi⟩ : ∃ i, i = 4 + q := ⟨_, rfl⟩
      have hw : wrap64 (4 + (q : Int)) = (i : Int) := by rw [wrap_id (by omega) (by omega)]; omega
      have hi4 : 4 ≤ i := by rw [hi]; exact Nat.le_add_right 4 q
      have hin : i < n := by clear hw hq; omega
      have hil : i < L.length := by rw [hn]; exact hin
      have HI := Fact.mk (And.intro hi4 hn)
      rw [hn] at hcap ⊢
      obtain ⟨e1, e2, e3⟩ := bytes_at HR.out i hil
      have HX := Fact.mk (xor_byte L[i] t (HG.out _ (List.getElem_mem hil)) ⟨ht1, ht2⟩)
      have HY := Fact.mk (fun y h1 h2 => HT.out i hi4 hil y h1 h2)
      have HS := Fact.mk e3
      have ht0 := Fact.mk ht3
      generalize L[i] = z at *
      clear hL hn hi hq1 e3 hil HT hi4
      have GW := Fact.mk (And.intro hg0 hg1)
      have HC := Fact.mk hcap
      clear hg0 hg1 hcap
      go_wp2_with fail
      have HV := Fact.mk (And.intro HX.out.1 (And.intro HX.out.2.1 (HX.out.2.2 ht0.out)))
      generalize Go.bits .xor .u8 z t = y at *
      have hs := HS.out y
      have B5 := Fact.mk (next_below H4.out.2.1 (show Only (fun k => k = g) w3 (w3.setCell ⟨g, i, none⟩ (.int .u8 y)) from Only.setCell (S := fun k => k = g) _ rfl _) (fun k hk => by
        have := GW.out.1; have := HW2.out; omega))
      clear HS HX hR HR H4 e1 e2
      generalize w3.setCell ⟨g, i, none⟩ (.int .u8 y) = w4 at *
      have hd := dec_any (w := w4) (A := some ⟨g, 0, none⟩) (c := cap) (l := L.set i y) (by rw [List.length_set]; exact hs) (by rw [List.length_set, HI.out.2]; exact HC.out) (fun c hc => by
        rcases List.mem_or_eq_of_mem_set hc with h | h
        · exact HG.out c h
        · rw [h]; exact ⟨HV.out.1, HV.out.2.1⟩)
      rw [List.length_set, HI.out.2, HY.out y ⟨HV.out.1, HV.out.2.1⟩ HV.out.2.2] at hd
      refine hd.mono ?_
      clear hd hs
      dsimp only
      rintro e w5 ⟨ve, rfl, ⟨vn, vf, vb, rfl, ⟨An2, cn2, rfl, -, -⟩, ⟨Af2, cf2, rfl, -, -⟩, ⟨Ab2, cb2, rfl, -, -⟩⟩, hb5⟩
      have B6 := Fact.mk (next_new B5.out hb5)
      clear hb5 B5 hw hq hpos ht
      have hz : zP.key.toList.isEmpty = true := by decide +kernel
      go_wp2_with fail
      go_ret
      exact ⟨rfl, B6.out.alloc B6.out.size _⟩
    · go_wp2_with fail
      go_ret
      exact ⟨rfl, H4.out.2.1⟩
end Go.Proofs.YtllnleokjcimhaaDoor.En
