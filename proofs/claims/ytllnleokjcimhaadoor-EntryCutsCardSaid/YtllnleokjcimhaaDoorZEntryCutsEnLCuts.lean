import Derived.Test.YtllnleokjcimhaaDoorZEntryCutsEnOpen
/-
The law EntryCuts: a record that is cut off, or has anything behind it, is none.
-/
namespace Go.Proofs.YtllnleokjcimhaaDoor.En
open Go.RowKit Go.Maps Go.Proofs.YtllnleokjcimhaaDoorW.PrintWords Go.Proofs.YtllnleokjcimhaaDoorW.PrintLast Go.Proofs.YtllnleokjcimhaaDoorW.PrintMore Go.Proofs.YtllnleokjcimhaaDoor.P Go.Proofs.YtllnleokjcimhaaDoor.Pure
set_option linter.unusedVariables false
set_option linter.unusedSimpArgs false
theorem build_b0 (W : World) : (Instr.buildSlice 25 0 #[]).run Tryd.prog W = .ok (.slice (some ⟨W.heap.size, 0, none⟩) 0 0) (W.alloc (.cells #[] 5)) := by
  have hu := Tryd.underlying25
  go_simp
theorem none_b (W : World) (b k : Nat) (hb : b ≤ W.heap.size) (hk : W.heap.size = k) : Kd.R (Kd.int .u8) 5 (W.alloc (.cells #[] 5)) b (fun k => b ≤ k) (.slice (some ⟨k, 0, none⟩) 0 0) [] := by
  subst hk
  exact ⟨fun k hk => by simp [Value.ownBlock] at hk; omega, OwnRow.lit W b (Reps.none _ _) hb (by simp)⟩
set_option maxHeartbeats 4000000 in
set_option maxRecDepth 100000 in
theorem EntryCuts_true (w : World) (ve : Value) (x : PE) (hE : Ent (fun _ => False) w ve x) (hG : Good x) (ver : Int) (hver : (Lit.int .i64 ver).wf = true) (cut : Int) (hcut : (Lit.int .i64 cut).wf = true)
    (Am : Option Addr) (cm : Nat) (more : List Int) (hm : ReadB w Am more.length more) (hcm : more.length ≤ cm) (hym : more.length ≤ 9223372036854775807 ∧ ∀ c ∈ more, (Lit.int .u8 c).wf = true) :
    Calls Tryd.prog 7 #[ve, .int .i64 ver, .int .i64 cut, .slice Am more.length cm] w fun e w' => e = .returned (.bool true) ∧ Below w.heap.size w w' := by
  replace hcut := wf_range hcut
  clear hver
  have HM : Fact (∀ W, Below w.heap.size w W → ReadB W Am more.length more) := ⟨fun W hb => Kd.C_below hm hb⟩
  have HMR : Fact (∀ c ∈ more, 0 ≤ c ∧ c < 256) := ⟨fun c hc => wf_byte (hym.2 c hc)⟩
  replace hym := hym.1
  clear hm
  obtain ⟨vn, vf, vb, rfl, ⟨An, cn, rfl, hcn, hrn⟩, ⟨Af, cf, rfl, hcf, hrf⟩, ⟨Ab, cb, rfl, hcb, hrb⟩⟩ := hE
  have H0 : Fact (Ent (fun _ => False) w (.agg #[.string x.key, .string x.second, .slice An x.names.length cn, .int .i64 x.asked, .int .i64 x.came, .int .i64 x.status, .slice Af (flds x.fields).length cf, .slice Ab x.body.length cb, .int .i64 x.gen]) x) := ⟨⟨_, _, _, rfl, ⟨An, cn, rfl, hcn, hrn⟩, ⟨Af, cf, rfl, hcf, hrf⟩, ⟨Ab, cb, rfl, hcb, hrb⟩⟩⟩
  have HG := Fact.mk hG
  clear hrn hrf hrb hG
  go_enter Tryd.func7, Tryd.ntmps7
  go_wp2_with fail
  have H1 : Fact (Ent (fun _ => False) (w.alloc (.cells #[.string x.key, .string x.second, .slice An x.names.length cn, .int .i64 x.asked, .int .i64 x.came, .int .i64 x.status, .slice Af (flds x.fields).length cf, .slice Ab x.body.length cb, .int .i64 x.gen] 27)) (.agg #[.string x.key, .string x.second, .slice An x.names.length cn, .int .i64 x.asked, .int .i64 x.came, .int .i64 x.status, .slice Af (flds x.fields).length cf, .slice Ab x.body.length cb, .int .i64 x.gen]) x ∧ Below w.heap.size w (w.alloc (.cells #[.string x.key, .string x.second, .slice An x.names.length cn, .int .i64 x.asked, .int .i64 x.came, .int .i64 x.status, .slice Af (flds x.fields).length cf, .slice Ab x.body.length cb, .int .i64 x.gen] 27)) ∧ (w.alloc (.cells #[.string x.key, .string x.second, .slice An x.names.length cn, .int .i64 x.asked, .int .i64 x.came, .int .i64 x.status, .slice Af (flds x.fields).length cf, .slice Ab x.body.length cb, .int .i64 x.gen] 27)).heap[w.heap.size]? = some (.cells #[.string x.key, .string x.second, .slice An x.names.length cn, .int .i64 x.asked, .int .i64 x.came, .int .i64 x.status, .slice Af (flds x.fields).length cf, .slice Ab x.body.length cb, .int .i64 x.gen] 27 (0, 0))) := ⟨H0.out.new ((Below.refl _ _).alloc (Nat.le_refl _) _), (Below.refl _ _).alloc (Nat.le_refl _) _, heap_alloc_new w _⟩
  clear H0
  generalize w.alloc (.cells #[.string x.key, .string x.second, .slice An x.names.length cn, .int .i64 x.asked, .int .i64 x.came, .int .i64 x.status, .slice Af (flds x.fields).length cf, .slice Ab x.body.length cb, .int .i64 x.gen] 27) = wa at *
  refine (anchor_any wa).mono ?_
  rintro e w1 ⟨rfl, hb1⟩
  have H2 : Fact (Ent (fun _ => False) w1 (.agg #[.string x.key, .string x.second, .slice An x.names.length cn, .int .i64 x.asked, .int .i64 x.came, .int .i64 x.status, .slice Af (flds x.fields).length cf, .slice Ab x.body.length cb, .int .i64 x.gen]) x ∧ Below w.heap.size w w1 ∧ w1.heap[w.heap.size]? = some (.cells #[.string x.key, .string x.second, .slice An x.names.length cn, .int .i64 x.asked, .int .i64 x.came, .int .i64 x.status, .slice Af (flds x.fields).length cf, .slice Ab x.body.length cb, .int .i64 x.gen] 27 (0, 0))) := ⟨H1.out.1.new hb1, next_new H1.out.2.1 hb1, (hb1.block _ (Array.getElem?_eq_some_iff.1 H1.out.2.2).1).trans H1.out.2.2⟩
  clear hb1 H1
  clear wa
  obtain ⟨x0, x1, x2, x3, x4, x5, x6, x7, x8⟩ := nine H2.out.2.2
  go_wp2_with fail
  refine (small_any H2.out.1 HG.out.names HG.out.fields).mono ?_
  rintro e w2 ⟨rfl, hb2⟩
  have H3 : Fact (Ent (fun _ => False) w2 (.agg #[.string x.key, .string x.second, .slice An x.names.length cn, .int .i64 x.asked, .int .i64 x.came, .int .i64 x.status, .slice Af (flds x.fields).length cf, .slice Ab x.body.length cb, .int .i64 x.gen]) x ∧ Below w.heap.size w w2 ∧ w2.heap[w.heap.size]? = some (.cells #[.string x.key, .string x.second, .slice An x.names.length cn, .int .i64 x.asked, .int .i64 x.came, .int .i64 x.status, .slice Af (flds x.fields).length cf, .slice Ab x.body.length cb, .int .i64 x.gen] 27 (0, 0))) := ⟨H2.out.1.new hb2, next_new H2.out.2.1 hb2, (hb2.block _ (Array.getElem?_eq_some_iff.1 H2.out.2.2).1).trans H2.out.2.2⟩
  clear hb2 H2 x0 x1 x2 x3 x4 x5 x6 x7 x8
  clear w1
  cases hsm : smallP x with
  | false =>
    go_wp2_with fail
    go_ret
    exact ⟨rfl, H3.out.2.1⟩
  | true =>
    have HB := Fact.mk (smallP_bnd hsm HG.out.bytes)
    clear hsm
    by_cases c1 : cut < 0
    · go_wp2_with fail
      go_ret
      exact ⟨rfl, H3.out.2.1⟩
    by_cases c2 : 100 < more.length
    · go_wp2_with fail
      go_ret
      exact ⟨rfl, H3.out.2.1⟩
    obtain ⟨x0, x1, x2, x3, x4, x5, x6, x7, x8⟩ := nine H3.out.2.2
    go_wp2_with fail
    refine (enc_any H3.out.1 HB.out ver).mono ?_
    rintro e w3 ⟨vb, rfl, hR0, hb3⟩
    have H4 : Fact (Ent (fun _ => False) w3 (.agg #[.string x.key, .string x.second, .slice An x.names.length cn, .int .i64 x.asked, .int .i64 x.came, .int .i64 x.status, .slice Af (flds x.fields).length cf, .slice Ab x.body.length cb, .int .i64 x.gen]) x ∧ Below w.heap.size w w3 ∧ w3.heap[w.heap.size]? = some (.cells #[.string x.key, .string x.second, .slice An x.names.length cn, .int .i64 x.asked, .int .i64 x.came, .int .i64 x.status, .slice Af (flds x.fields).length cf, .slice Ab x.body.length cb, .int .i64 x.gen] 27 (0, 0))) := ⟨H3.out.1.new hb3, next_new H3.out.2.1 hb3, (hb3.block _ (Array.getElem?_eq_some_iff.1 H3.out.2.2).1).trans H3.out.2.2⟩
    have HW2 : Fact (w.heap.size < w2.heap.size) := ⟨(Array.getElem?_eq_some_iff.1 H3.out.2.2).1⟩
    clear hb3 H3 x0 x1 x2 x3 x4 x5 x6 x7 x8
    by_cases c4 : (encP ver x).2 = 0
    rotate_left
    · go_wp2_with fail
      go_ret
      exact ⟨rfl, H4.out.2.1⟩
    obtain ⟨he, hf, hl⟩ := encP_ok c4
    rw [he] at hR0
    rw [c4]
    obtain ⟨hr, hv, -, -⟩ := fitsP_right hf
    have hL : (recOf ver (restP ver x)).length = 8 + (restP ver x).length := recOf_len _ _
    obtain ⟨g, cap, rfl, hg0, hg1, hcap, hR⟩ := bytes_form hR0 (by omega)
    clear hR0
    dsimp only at hcap hR ⊢
    have HCut := Fact.mk (fun k hk => dec_cut ver (restP ver x) hv hl k hk)
    have HMore := Fact.mk (fun m hm => dec_more ver (restP ver x) m hv hl hm)
    have HD := Fact.mk (dec_enc x ver hf HB.out.bytes hl)
    have HGL := Fact.mk (recOf_rng ver x)
    generalize recOf ver (restP ver x) = L at *
    have HR := Fact.mk hR
    clear hR
    obtain ⟨n, hn⟩ : ∃ n, L.length = n := ⟨_, rfl⟩
    have hn1 : n ≤ 4000 := by rw [← hn, hL]; exact Nat.add_le_add_left hl 8
    have hn2 : 8 ≤ n := by rw [← hn, hL]; exact Nat.le_add_right _ _
    obtain ⟨q, hq⟩ := Int.eq_ofNat_of_zero_le (Int.emod_nonneg cut (show (n : Int) ≠ 0 by omega))
    have hq1 := Int.emod_lt_of_pos cut (show (0 : Int) < (n : Int) by omega)
    rw [hq] at hq1
    have hqn : q < n := by clear hq; omega
    rw [hn] at hcap ⊢
    have hcu := fun W => cut_to W (some ⟨g, 0, none⟩) n cap q (by clear hq; omega)
    have HN := Fact.mk hn
    have GW := Fact.mk (And.intro hg0 hg1)
    have HC := Fact.mk hcap
    have hre := (Kd.R_reads' HR.out).2.2
    have hta : (L.take q).length = q := by rw [List.length_take, hn]; clear hq; omega
    have hd := dec_any (w := w3) (A := some ⟨g, 0, none⟩) (c := cap) (l := L.take q) (Kd.C_take hre (by rw [hn]; clear hq; omega)) (by rw [hta]; clear hq; omega) (fun c hc => HGL.out c (List.mem_of_mem_take hc))
    rw [hta, HCut.out q (by rw [hn]; exact hqn)] at hd
    generalize (decP (L.take q)).1 = x5 at hd
    generalize (decP (L.take q)).2.1 = v5 at hd
    clear hL hn hq1 hcap hg0 hg1 HCut hre
    have HDD := Fact.mk hd
    clear hd
    go_wp2_with fail
    refine HDD.out.mono ?_
    clear HDD hcu
    rintro e w5 ⟨ve, rfl, ⟨vn, vf, vb, rfl, ⟨An2, cn2, rfl, -, -⟩, ⟨Af2, cf2, rfl, -, -⟩, ⟨Ab2, cb2, rfl, -, -⟩⟩, hb5⟩
    have B6 : Fact (Below w.heap.size w (w5.alloc (.cells #[.string x5.key, .string x5.second, .slice An2 x5.names.length cn2, .int .i64 x5.asked, .int .i64 x5.came, .int .i64 x5.status, .slice Af2 (flds x5.fields).length cf2, .slice Ab2 x5.body.length cb2, .int .i64 x5.gen] 27)) ∧ Kd.R (Kd.int .u8) 5 (w5.alloc (.cells #[.string x5.key, .string x5.second, .slice An2 x5.names.length cn2, .int .i64 x5.asked, .int .i64 x5.came, .int .i64 x5.status, .slice Af2 (flds x5.fields).length cf2, .slice Ab2 x5.body.length cb2, .int .i64 x5.gen] 27)) w2.heap.size (fun _ => True) (.slice (some ⟨g, 0, none⟩) L.length cap) L) :=
      ⟨(next_new H4.out.2.1 hb5).alloc (next_new H4.out.2.1 hb5).size _, Kd.R_below HR.out (hb5.alloc hb5.size _)⟩
    have hbu := build_b0
    clear hb5 HR H4
    go_wp2_with ((with_reducible refine gate_builtin (b := .append) (xs := #[.tmp 51, .tmp 52]) rfl ?_); at_builtin; refine Aside0.out (p := _) ?_)
    refine Aside0.mk ?_
    have hr6 := Kd.R_alloc B6.out.2 (.cells #[] 5)
    have hr7 := (Kd.R_reads' hr6).2.2
    rw [HN.out] at hr7
    refine Kd.R_append_rows (Kd.int .u8) (w0 := w) w.heap.size rfl (.tmp 51) (.tmp 52) 25 5 (.int .u8 0) 1 rfl Tryd.underlying25 info_u8t rfl (by decide) (by omega) _ [] L (some ⟨g, 0, none⟩) n cap (fun k => w.heap.size ≤ k) (fun _ => False) rfl rfl (none_b _ w.heap.size _ B6.out.1.size (by simp)) hr7 (fun _ _ h => h) (fun _ h => h.elim) (fun k hk => by have := B6.out.1.size; simp at hk this; omega) (B6.out.1.alloc B6.out.1.size _) (by have := B6.out.1.size; simp at this ⊢; omega) (by simp; omega) ?_
    intro va wa ho hb hg hat
    rw [List.nil_append] at ho
    obtain ⟨Aa, ca, rfl⟩ := Kd.R_slice ho
    have HO := Fact.mk ho
    have HBa := Fact.mk hb
    clear ho hb hg hat hr6 hr7 B6 hbu
    go_wp2_with ((with_reducible refine gate_builtin (b := .append) (xs := #[.tmp 53, .tmp 54]) rfl ?_); at_builtin; refine Aside0.out (p := _) ?_)
    refine Aside0.mk ?_
    refine Kd.R_append_rows (Kd.int .u8) (w0 := w) w.heap.size rfl (.tmp 53) (.tmp 54) 25 5 (.int .u8 0) 1 rfl Tryd.underlying25 info_u8t rfl (by decide) (by omega) _ L more Am more.length cm (fun k => w.heap.size ≤ k) (fun _ => False) rfl rfl HO.out (HM.out _ HBa.out) (fun _ _ h => h) (fun _ h => h.elim) (fun k hk => Nat.le_trans HBa.out.size hk) HBa.out HBa.out.size (by rw [HN.out]; omega) ?_
    intro vb wb ho hb hg hat
    obtain ⟨Ac, cc, rfl⟩ := Kd.R_slice ho
    have HO2 := Fact.mk ho
    have HB2 := Fact.mk hb
    clear ho hb hg hat HO HBa
    have E0 : Fact ((more.length = 0 → (decP (L ++ more)).2.2 = 0) ∧ (0 < more.length → (decP (L ++ more)).2.2 = 10)) := by
      refine ⟨fun h => ?_, fun h => HMore.out more h⟩
      rw [List.length_eq_zero_iff.1 h, List.append_nil, HD.out]
    have RG : Fact (∀ c ∈ L ++ more, 0 ≤ c ∧ c < 256) := ⟨fun c hc => (List.mem_append.1 hc).elim (HGL.out c) (HMR.out c)⟩
    clear HMore HD HGL HMR HM hcut hq hta
    generalize L ++ more = M at *
    have HDD := Fact.mk (dec_any (w := wb) (A := Ac) (c := cc) (l := M) (Kd.R_reads' HO2.out).2.2 (Kd.R_reads' HO2.out).2.1 RG.out)
    generalize (decP M).1 = x6 at *
    generalize (decP M).2.1 = v6 at *
    generalize (decP M).2.2 = e6 at *
    clear HO2 RG
    go_wp2_with fail
    refine HDD.out.mono ?_
    rintro e w7 ⟨ve, rfl, ⟨vn, vf, vb, rfl, ⟨An3, cn3, rfl, -, -⟩, ⟨Af3, cf3, rfl, -, -⟩, ⟨Ab3, cb3, rfl, -, -⟩⟩, hb7⟩
    have B7 := Fact.mk ((next_new HB2.out hb7).alloc (next_new HB2.out hb7).size (.cells #[.string x6.key, .string x6.second, .slice An3 x6.names.length cn3, .int .i64 x6.asked, .int .i64 x6.came, .int .i64 x6.status, .slice Af3 (flds x6.fields).length cf3, .slice Ab3 x6.body.length cb3, .int .i64 x6.gen] 27))
    clear HDD hb7 HB2
    rcases Nat.eq_zero_or_pos more.length with h0 | h0
    · obtain rfl := E0.out.1 h0
      go_wp2_with fail
      go_ret
      exact ⟨rfl, B7.out⟩
    · obtain rfl := E0.out.2 h0
      have hne : ¬ more.length = 0 := Nat.ne_of_gt h0
      have hne2 : ¬ ((more.length : Int) = 0) := by omega
      have hne4 : ((more.length : Int) == 0) = false := beq_eq_false_iff_ne.2 hne2
      have hne3 : more ≠ [] := fun h => by rw [h] at h0; cases h0
      go_wp2_with fail
      go_ret
      exact ⟨rfl, B7.out⟩
end Go.Proofs.YtllnleokjcimhaaDoor.En
