import Derived.Test.YtllnleokjcimhaaDoorZEntrySameEnQC
/-
The law EntryFits: what a version can have the ones above it can have too; and a record that is turned up and down again is the same bytes.
-/
namespace Go.Proofs.YtllnleokjcimhaaDoor.En
open Go.RowKit Go.Maps Go.Proofs.YtllnleokjcimhaaDoorW.PrintWords Go.Proofs.YtllnleokjcimhaaDoorW.PrintLast Go.Proofs.YtllnleokjcimhaaDoorW.PrintMore Go.Proofs.YtllnleokjcimhaaDoor.P Go.Proofs.YtllnleokjcimhaaDoor.Pure
set_option linter.unusedVariables false
set_option linter.unusedSimpArgs false
theorem bytes_str {W : World} {A : Option Addr} {c : Nat} {l : List Int} (h : ReadB W A l.length l) : (convert 25 9 (.slice A l.length c)).run Tryd.prog W = .ok (.string (strOfNums l)) W :=
  Kd.C_string Tryd.underlying25 Tryd.underlying5 Tryd.underlying9 h
end Go.Proofs.YtllnleokjcimhaaDoor.En
/-
The law EntrySame: two entries are the same just if the document says so, and right ones just if their records are.
-/
namespace Go.Proofs.YtllnleokjcimhaaDoor.En
open Go.RowKit Go.Maps Go.Proofs.YtllnleokjcimhaaDoorW.PrintWords Go.Proofs.YtllnleokjcimhaaDoorW.PrintLast Go.Proofs.YtllnleokjcimhaaDoorW.PrintMore Go.Proofs.YtllnleokjcimhaaDoor.P Go.Proofs.YtllnleokjcimhaaDoor.Pure
set_option linter.unusedVariables false
set_option linter.unusedSimpArgs false
theorem held2 {Q : Prop} {a0 a1 a2 a3 a4 a5 a6 a7 a8 : Prop} (h : a0 ∧ a1 ∧ a2 ∧ a3 ∧ a4 ∧ a5 ∧ a6 ∧ a7 ∧ a8) (hQ : Q) : a0 ∧ a1 ∧ a2 ∧ a3 ∧ a4 ∧ a5 ∧ a6 ∧ a7 ∧ a8 ∧ Q := by
  obtain ⟨h0, h1, h2, h3, h4, h5, h6, h7, h8⟩ := h
  exact ⟨h0, h1, h2, h3, h4, h5, h6, h7, h8, hQ⟩
set_option maxHeartbeats 8000000 in
set_option maxRecDepth 100000 in
theorem EntrySame_true (w : World) (ve : Value) (x : PE) (hE : Ent (fun _ => False) w ve x) (hG : Good x) (vf : Value) (y : PE) (hF : Ent (fun _ => False) w vf y) (hG2 : Good y) :
    Calls Tryd.prog 5 #[ve, vf] w fun e w' => e = .returned (.bool true) ∧ Below w.heap.size w w' := by
  obtain ⟨vn1, vf1, vb1, rfl, ⟨An1, cn1, rfl, hcn1, hrn1⟩, ⟨Af1, cf1, rfl, hcf1, hrf1⟩, ⟨Ab1, cb1, rfl, hcb1, hrb1⟩⟩ := hE
  have H0 : Fact (Ent (fun _ => False) w (.agg #[.string x.key, .string x.second, .slice An1 x.names.length cn1, .int .i64 x.asked, .int .i64 x.came, .int .i64 x.status, .slice Af1 (flds x.fields).length cf1, .slice Ab1 x.body.length cb1, .int .i64 x.gen]) x) := ⟨⟨_, _, _, rfl, ⟨An1, cn1, rfl, hcn1, hrn1⟩, ⟨Af1, cf1, rfl, hcf1, hrf1⟩, ⟨Ab1, cb1, rfl, hcb1, hrb1⟩⟩⟩
  clear hrn1 hrf1 hrb1
  obtain ⟨vn2, vf2, vb2, rfl, ⟨An2, cn2, rfl, hcn2, hrn2⟩, ⟨Af2, cf2, rfl, hcf2, hrf2⟩, ⟨Ab2, cb2, rfl, hcb2, hrb2⟩⟩ := hF
  have H0b : Fact (Ent (fun _ => False) w (.agg #[.string y.key, .string y.second, .slice An2 y.names.length cn2, .int .i64 y.asked, .int .i64 y.came, .int .i64 y.status, .slice Af2 (flds y.fields).length cf2, .slice Ab2 y.body.length cb2, .int .i64 y.gen]) y) := ⟨⟨_, _, _, rfl, ⟨An2, cn2, rfl, hcn2, hrn2⟩, ⟨Af2, cf2, rfl, hcf2, hrf2⟩, ⟨Ab2, cb2, rfl, hcb2, hrb2⟩⟩⟩
  clear hrn2 hrf2 hrb2
  have HG := Fact.mk hG
  have HG2 := Fact.mk hG2
  clear hG hG2
  go_enter Tryd.func5, Tryd.ntmps5
  go_wp2_with fail
  have b1 : Below w.heap.size w (w.alloc (.cells #[.string x.key, .string x.second, .slice An1 x.names.length cn1, .int .i64 x.asked, .int .i64 x.came, .int .i64 x.status, .slice Af1 (flds x.fields).length cf1, .slice Ab1 x.body.length cb1, .int .i64 x.gen] 27)) := (Below.refl _ _).alloc (Nat.le_refl _) _
  have b2 : Below w.heap.size w ((w.alloc (.cells #[.string x.key, .string x.second, .slice An1 x.names.length cn1, .int .i64 x.asked, .int .i64 x.came, .int .i64 x.status, .slice Af1 (flds x.fields).length cf1, .slice Ab1 x.body.length cb1, .int .i64 x.gen] 27)).alloc (.cells #[.string y.key, .string y.second, .slice An2 y.names.length cn2, .int .i64 y.asked, .int .i64 y.came, .int .i64 y.status, .slice Af2 (flds y.fields).length cf2, .slice Ab2 y.body.length cb2, .int .i64 y.gen] 27)) := b1.alloc b1.size _
  have H1 : Fact (Ent (fun _ => False) ((w.alloc (.cells #[.string x.key, .string x.second, .slice An1 x.names.length cn1, .int .i64 x.asked, .int .i64 x.came, .int .i64 x.status, .slice Af1 (flds x.fields).length cf1, .slice Ab1 x.body.length cb1, .int .i64 x.gen] 27)).alloc (.cells #[.string y.key, .string y.second, .slice An2 y.names.length cn2, .int .i64 y.asked, .int .i64 y.came, .int .i64 y.status, .slice Af2 (flds y.fields).length cf2, .slice Ab2 y.body.length cb2, .int .i64 y.gen] 27)) (.agg #[.string x.key, .string x.second, .slice An1 x.names.length cn1, .int .i64 x.asked, .int .i64 x.came, .int .i64 x.status, .slice Af1 (flds x.fields).length cf1, .slice Ab1 x.body.length cb1, .int .i64 x.gen]) x ∧ Ent (fun _ => False) ((w.alloc (.cells #[.string x.key, .string x.second, .slice An1 x.names.length cn1, .int .i64 x.asked, .int .i64 x.came, .int .i64 x.status, .slice Af1 (flds x.fields).length cf1, .slice Ab1 x.body.length cb1, .int .i64 x.gen] 27)).alloc (.cells #[.string y.key, .string y.second, .slice An2 y.names.length cn2, .int .i64 y.asked, .int .i64 y.came, .int .i64 y.status, .slice Af2 (flds y.fields).length cf2, .slice Ab2 y.body.length cb2, .int .i64 y.gen] 27)) (.agg #[.string y.key, .string y.second, .slice An2 y.names.length cn2, .int .i64 y.asked, .int .i64 y.came, .int .i64 y.status, .slice Af2 (flds y.fields).length cf2, .slice Ab2 y.body.length cb2, .int .i64 y.gen]) y ∧ Below w.heap.size w ((w.alloc (.cells #[.string x.key, .string x.second, .slice An1 x.names.length cn1, .int .i64 x.asked, .int .i64 x.came, .int .i64 x.status, .slice Af1 (flds x.fields).length cf1, .slice Ab1 x.body.length cb1, .int .i64 x.gen] 27)).alloc (.cells #[.string y.key, .string y.second, .slice An2 y.names.length cn2, .int .i64 y.asked, .int .i64 y.came, .int .i64 y.status, .slice Af2 (flds y.fields).length cf2, .slice Ab2 y.body.length cb2, .int .i64 y.gen] 27)) ∧ ((w.alloc (.cells #[.string x.key, .string x.second, .slice An1 x.names.length cn1, .int .i64 x.asked, .int .i64 x.came, .int .i64 x.status, .slice Af1 (flds x.fields).length cf1, .slice Ab1 x.body.length cb1, .int .i64 x.gen] 27)).alloc (.cells #[.string y.key, .string y.second, .slice An2 y.names.length cn2, .int .i64 y.asked, .int .i64 y.came, .int .i64 y.status, .slice Af2 (flds y.fields).length cf2, .slice Ab2 y.body.length cb2, .int .i64 y.gen] 27)).heap[w.heap.size]? = some (.cells #[.string x.key, .string x.second, .slice An1 x.names.length cn1, .int .i64 x.asked, .int .i64 x.came, .int .i64 x.status, .slice Af1 (flds x.fields).length cf1, .slice Ab1 x.body.length cb1, .int .i64 x.gen] 27 (0, 0)) ∧ ((w.alloc (.cells #[.string x.key, .string x.second, .slice An1 x.names.length cn1, .int .i64 x.asked, .int .i64 x.came, .int .i64 x.status, .slice Af1 (flds x.fields).length cf1, .slice Ab1 x.body.length cb1, .int .i64 x.gen] 27)).alloc (.cells #[.string y.key, .string y.second, .slice An2 y.names.length cn2, .int .i64 y.asked, .int .i64 y.came, .int .i64 y.status, .slice Af2 (flds y.fields).length cf2, .slice Ab2 y.body.length cb2, .int .i64 y.gen] 27)).heap[w.heap.size + 1]? = some (.cells #[.string y.key, .string y.second, .slice An2 y.names.length cn2, .int .i64 y.asked, .int .i64 y.came, .int .i64 y.status, .slice Af2 (flds y.fields).length cf2, .slice Ab2 y.body.length cb2, .int .i64 y.gen] 27 (0, 0))) := ⟨H0.out.new b2, H0b.out.new b2, b2, (Below.heap_alloc _ _ _ (by simp)).trans (heap_alloc_new w _), heap_alloc2_new w _ _⟩
  clear H0 H0b b1 b2
  generalize (w.alloc (.cells #[.string x.key, .string x.second, .slice An1 x.names.length cn1, .int .i64 x.asked, .int .i64 x.came, .int .i64 x.status, .slice Af1 (flds x.fields).length cf1, .slice Ab1 x.body.length cb1, .int .i64 x.gen] 27)).alloc (.cells #[.string y.key, .string y.second, .slice An2 y.names.length cn2, .int .i64 y.asked, .int .i64 y.came, .int .i64 y.status, .slice Af2 (flds y.fields).length cf2, .slice Ab2 y.body.length cb2, .int .i64 y.gen] 27) = wa at *
  refine (anchor_any wa).mono ?_
  rintro e w1 ⟨rfl, hb1⟩
  have H2 : Fact (Ent (fun _ => False) w1 (.agg #[.string x.key, .string x.second, .slice An1 x.names.length cn1, .int .i64 x.asked, .int .i64 x.came, .int .i64 x.status, .slice Af1 (flds x.fields).length cf1, .slice Ab1 x.body.length cb1, .int .i64 x.gen]) x ∧ Ent (fun _ => False) w1 (.agg #[.string y.key, .string y.second, .slice An2 y.names.length cn2, .int .i64 y.asked, .int .i64 y.came, .int .i64 y.status, .slice Af2 (flds y.fields).length cf2, .slice Ab2 y.body.length cb2, .int .i64 y.gen]) y ∧ Below w.heap.size w w1 ∧ w1.heap[w.heap.size]? = some (.cells #[.string x.key, .string x.second, .slice An1 x.names.length cn1, .int .i64 x.asked, .int .i64 x.came, .int .i64 x.status, .slice Af1 (flds x.fields).length cf1, .slice Ab1 x.body.length cb1, .int .i64 x.gen] 27 (0, 0)) ∧ w1.heap[w.heap.size + 1]? = some (.cells #[.string y.key, .string y.second, .slice An2 y.names.length cn2, .int .i64 y.asked, .int .i64 y.came, .int .i64 y.status, .slice Af2 (flds y.fields).length cf2, .slice Ab2 y.body.length cb2, .int .i64 y.gen] 27 (0, 0))) := ⟨H1.out.1.new hb1, H1.out.2.1.new hb1, next_new H1.out.2.2.1 hb1, (hb1.block _ (Array.getElem?_eq_some_iff.1 H1.out.2.2.2.1).1).trans H1.out.2.2.2.1, (hb1.block _ (Array.getElem?_eq_some_iff.1 H1.out.2.2.2.2).1).trans H1.out.2.2.2.2⟩
  clear hb1 H1
  clear wa
  obtain ⟨x0, x1, x2, x3, x4, x5, x6, x7, x8⟩ := nine H2.out.2.2.2.1
  obtain ⟨y0, y1, y2, y3, y4, y5, y6, y7, y8⟩ := nine H2.out.2.2.2.2
  go_wp2_with fail
  refine (small_any H2.out.1 HG.out.names HG.out.fields).mono ?_
  rintro e w2 ⟨rfl, hb2⟩
  have H3 : Fact (Ent (fun _ => False) w2 (.agg #[.string x.key, .string x.second, .slice An1 x.names.length cn1, .int .i64 x.asked, .int .i64 x.came, .int .i64 x.status, .slice Af1 (flds x.fields).length cf1, .slice Ab1 x.body.length cb1, .int .i64 x.gen]) x ∧ Ent (fun _ => False) w2 (.agg #[.string y.key, .string y.second, .slice An2 y.names.length cn2, .int .i64 y.asked, .int .i64 y.came, .int .i64 y.status, .slice Af2 (flds y.fields).length cf2, .slice Ab2 y.body.length cb2, .int .i64 y.gen]) y ∧ Below w.heap.size w w2 ∧ w2.heap[w.heap.size]? = some (.cells #[.string x.key, .string x.second, .slice An1 x.names.length cn1, .int .i64 x.asked, .int .i64 x.came, .int .i64 x.status, .slice Af1 (flds x.fields).length cf1, .slice Ab1 x.body.length cb1, .int .i64 x.gen] 27 (0, 0)) ∧ w2.heap[w.heap.size + 1]? = some (.cells #[.string y.key, .string y.second, .slice An2 y.names.length cn2, .int .i64 y.asked, .int .i64 y.came, .int .i64 y.status, .slice Af2 (flds y.fields).length cf2, .slice Ab2 y.body.length cb2, .int .i64 y.gen] 27 (0, 0))) := ⟨H2.out.1.new hb2, H2.out.2.1.new hb2, next_new H2.out.2.2.1 hb2, (hb2.block _ (Array.getElem?_eq_some_iff.1 H2.out.2.2.2.1).1).trans H2.out.2.2.2.1, (hb2.block _ (Array.getElem?_eq_some_iff.1 H2.out.2.2.2.2).1).trans H2.out.2.2.2.2⟩
  clear hb2 H2 x0 x1 x2 x3 x4 x5 x6 x7 x8 y0 y1 y2 y3 y4 y5 y6 y7 y8
  clear w1
  obtain ⟨x0, x1, x2, x3, x4, x5, x6, x7, x8⟩ := nine H3.out.2.2.2.1
  obtain ⟨y0, y1, y2, y3, y4, y5, y6, y7, y8⟩ := nine H3.out.2.2.2.2
  cases hsm : smallP x with
  | false =>
    go_wp2_with fail
    go_ret
    exact ⟨rfl, H3.out.2.2.1⟩
  | true =>
    have HX := Fact.mk (smallP_bnd hsm HG.out.bytes)
    clear hsm
    go_wp2_with fail
    refine (small_any H3.out.2.1 HG2.out.names HG2.out.fields).mono ?_
    rintro e w4 ⟨rfl, hb4⟩
    have H4 : Fact (Ent (fun _ => False) w4 (.agg #[.string x.key, .string x.second, .slice An1 x.names.length cn1, .int .i64 x.asked, .int .i64 x.came, .int .i64 x.status, .slice Af1 (flds x.fields).length cf1, .slice Ab1 x.body.length cb1, .int .i64 x.gen]) x ∧ Ent (fun _ => False) w4 (.agg #[.string y.key, .string y.second, .slice An2 y.names.length cn2, .int .i64 y.asked, .int .i64 y.came, .int .i64 y.status, .slice Af2 (flds y.fields).length cf2, .slice Ab2 y.body.length cb2, .int .i64 y.gen]) y ∧ Below w.heap.size w w4 ∧ w4.heap[w.heap.size]? = some (.cells #[.string x.key, .string x.second, .slice An1 x.names.length cn1, .int .i64 x.asked, .int .i64 x.came, .int .i64 x.status, .slice Af1 (flds x.fields).length cf1, .slice Ab1 x.body.length cb1, .int .i64 x.gen] 27 (0, 0)) ∧ w4.heap[w.heap.size + 1]? = some (.cells #[.string y.key, .string y.second, .slice An2 y.names.length cn2, .int .i64 y.asked, .int .i64 y.came, .int .i64 y.status, .slice Af2 (flds y.fields).length cf2, .slice Ab2 y.body.length cb2, .int .i64 y.gen] 27 (0, 0))) := ⟨H3.out.1.new hb4, H3.out.2.1.new hb4, next_new H3.out.2.2.1 hb4, (hb4.block _ (Array.getElem?_eq_some_iff.1 H3.out.2.2.2.1).1).trans H3.out.2.2.2.1, (hb4.block _ (Array.getElem?_eq_some_iff.1 H3.out.2.2.2.2).1).trans H3.out.2.2.2.2⟩
    clear hb4 H3 x0 x1 x2 x3 x4 x5 x6 x7 x8 y0 y1 y2 y3 y4 y5 y6 y7 y8
    obtain ⟨x0, x1, x2, x3, x4, x5, x6, x7, x8⟩ := nine H4.out.2.2.2.1
    obtain ⟨y0, y1, y2, y3, y4, y5, y6, y7, y8⟩ := nine H4.out.2.2.2.2
    cases hsm : smallP y with
    | false =>
      go_wp2_with fail
      go_ret
      exact ⟨rfl, H4.out.2.2.1⟩
    | true =>
      have HY := Fact.mk (smallP_bnd hsm HG2.out.bytes)
      clear hsm
      go_wp2_with fail
      refine (same_any H4.out.1 H4.out.2.1 HX.out).mono ?_
      rintro e w5 ⟨rfl, hb5⟩
      have H5 : Fact (Ent (fun _ => False) w5 (.agg #[.string x.key, .string x.second, .slice An1 x.names.length cn1, .int .i64 x.asked, .int .i64 x.came, .int .i64 x.status, .slice Af1 (flds x.fields).length cf1, .slice Ab1 x.body.length cb1, .int .i64 x.gen]) x ∧ Ent (fun _ => False) w5 (.agg #[.string y.key, .string y.second, .slice An2 y.names.length cn2, .int .i64 y.asked, .int .i64 y.came, .int .i64 y.status, .slice Af2 (flds y.fields).length cf2, .slice Ab2 y.body.length cb2, .int .i64 y.gen]) y ∧ Below w.heap.size w w5 ∧ w5.heap[w.heap.size]? = some (.cells #[.string x.key, .string x.second, .slice An1 x.names.length cn1, .int .i64 x.asked, .int .i64 x.came, .int .i64 x.status, .slice Af1 (flds x.fields).length cf1, .slice Ab1 x.body.length cb1, .int .i64 x.gen] 27 (0, 0)) ∧ w5.heap[w.heap.size + 1]? = some (.cells #[.string y.key, .string y.second, .slice An2 y.names.length cn2, .int .i64 y.asked, .int .i64 y.came, .int .i64 y.status, .slice Af2 (flds y.fields).length cf2, .slice Ab2 y.body.length cb2, .int .i64 y.gen] 27 (0, 0))) := ⟨H4.out.1.new hb5, H4.out.2.1.new hb5, next_new H4.out.2.2.1 hb5, (hb5.block _ (Array.getElem?_eq_some_iff.1 H4.out.2.2.2.1).1).trans H4.out.2.2.2.1, (hb5.block _ (Array.getElem?_eq_some_iff.1 H4.out.2.2.2.2).1).trans H4.out.2.2.2.2⟩
      clear hb5 H4 x0 x1 x2 x3 x4 x5 x6 x7 x8 y0 y1 y2 y3 y4 y5 y6 y7 y8
      cases hs : sameP x y with
      | true =>
        go_wp2_with fail
        skip
        refine start_ (n := 7) (S := fun w' => w'.cell? ⟨w.heap.size, 0, none⟩ = some (.string x.key) ∧ w'.cell? ⟨w.heap.size, 1, none⟩ = some (.string x.second) ∧ w'.cell? ⟨w.heap.size, 2, none⟩ = some (.slice An1 x.names.length cn1) ∧ w'.cell? ⟨w.heap.size, 3, none⟩ = some (.int .i64 x.asked) ∧ w'.cell? ⟨w.heap.size, 4, none⟩ = some (.int .i64 x.came) ∧ w'.cell? ⟨w.heap.size, 5, none⟩ = some (.int .i64 x.status) ∧ w'.cell? ⟨w.heap.size, 6, none⟩ = some (.slice Af1 (flds x.fields).length cf1) ∧ w'.cell? ⟨w.heap.size, 7, none⟩ = some (.slice Ab1 x.body.length cb1) ∧ w'.cell? ⟨w.heap.size, 8, none⟩ = some (.int .i64 x.gen) ∧ w'.cell? ⟨w.heap.size + 1, 0, none⟩ = some (.string y.key) ∧ w'.cell? ⟨w.heap.size + 1, 1, none⟩ = some (.string y.second) ∧ w'.cell? ⟨w.heap.size + 1, 2, none⟩ = some (.slice An2 y.names.length cn2) ∧ w'.cell? ⟨w.heap.size + 1, 3, none⟩ = some (.int .i64 y.asked) ∧ w'.cell? ⟨w.heap.size + 1, 4, none⟩ = some (.int .i64 y.came) ∧ w'.cell? ⟨w.heap.size + 1, 5, none⟩ = some (.int .i64 y.status) ∧ w'.cell? ⟨w.heap.size + 1, 6, none⟩ = some (.slice Af2 (flds y.fields).length cf2) ∧ w'.cell? ⟨w.heap.size + 1, 7, none⟩ = some (.slice Ab2 y.body.length cb2) ∧ w'.cell? ⟨w.heap.size + 1, 8, none⟩ = some (.int .i64 y.gen)) (ds := []) #[false, false, false, false, false, false, false] (by kernel_rfl) rfl rfl (held2 (nine (show (w5.drew).heap[w.heap.size]? = some (.cells #[.string x.key, .string x.second, .slice An1 x.names.length cn1, .int .i64 x.asked, .int .i64 x.came, .int .i64 x.status, .slice Af1 (flds x.fields).length cf1, .slice Ab1 x.body.length cb1, .int .i64 x.gen] 27 (0, 0)) from H5.out.2.2.2.1)) (nine (show (w5.drew).heap[w.heap.size + 1]? = some (.cells #[.string y.key, .string y.second, .slice An2 y.names.length cn2, .int .i64 y.asked, .int .i64 y.came, .int .i64 y.status, .slice Af2 (flds y.fields).length cf2, .slice Ab2 y.body.length cb2, .int .i64 y.gen] 27 (0, 0)) from H5.out.2.2.2.2))) (fun hHeld => ?_)
        have HD : Fact (Ent (fun _ => False) w5.drew (.agg #[.string x.key, .string x.second, .slice An1 x.names.length cn1, .int .i64 x.asked, .int .i64 x.came, .int .i64 x.status, .slice Af1 (flds x.fields).length cf1, .slice Ab1 x.body.length cb1, .int .i64 x.gen]) x ∧ Ent (fun _ => False) w5.drew (.agg #[.string y.key, .string y.second, .slice An2 y.names.length cn2, .int .i64 y.asked, .int .i64 y.came, .int .i64 y.status, .slice Af2 (flds y.fields).length cf2, .slice Ab2 y.body.length cb2, .int .i64 y.gen]) y ∧ Below w.heap.size w w5.drew ∧ w5.drew.heap[w.heap.size]? = some (.cells #[.string x.key, .string x.second, .slice An1 x.names.length cn1, .int .i64 x.asked, .int .i64 x.came, .int .i64 x.status, .slice Af1 (flds x.fields).length cf1, .slice Ab1 x.body.length cb1, .int .i64 x.gen] 27 (0, 0)) ∧ w5.drew.heap[w.heap.size + 1]? = some (.cells #[.string y.key, .string y.second, .slice An2 y.names.length cn2, .int .i64 y.asked, .int .i64 y.came, .int .i64 y.status, .slice Af2 (flds y.fields).length cf2, .slice Ab2 y.body.length cb2, .int .i64 y.gen] 27 (0, 0))) := ⟨H5.out.1.new (Below.refl _ _).drew, H5.out.2.1.new (Below.refl _ _).drew, H5.out.2.2.1.drew, H5.out.2.2.2.1, H5.out.2.2.2.2⟩
        clear H5
        generalize w5.drew = W at *
        skip
        refine pure_ (i := 0) (N := (some 23)) (v := ?_) (a' := ?_) #[true, false, false, false, false, false, false] rfl rfl (by kernel_rfl) (fun _ _ _ h => h) (Or.inl ⟨by rfl, ?_⟩) ?_ ?_
        rotate_left
        · intro w'
          go_simp
          with_reducible rfl
        rotate_left
        · simp only [Act.put, List.setIfInBounds_toArray, List.set_cons_zero, List.set_cons_succ, i64_w, i32_w]
          rfl
        refine take_ (i := 1) (N := (some 24)) (v := ?_) (a' := ?_) #[true, true, false, false, false, false, false] rfl rfl (by kernel_rfl) (fun _ _ _ h => h) (Or.inl ⟨by rfl, ?_⟩) hHeld ?_ ?_
        rotate_left
        · rintro w' ⟨s0, s1, s2, s3, s4, s5, s6, s7, s8, s9, s10, s11, s12, s13, s14, s15, s16, s17⟩
          go_simp
          with_reducible rfl
        rotate_left
        · simp only [Act.put, List.setIfInBounds_toArray, List.set_cons_zero, List.set_cons_succ, i64_w, i32_w]
          rfl
        refine take_ (i := 3) (N := (some 26)) (v := ?_) (a' := ?_) #[true, true, false, true, false, false, false] rfl rfl (by kernel_rfl) (fun _ _ _ h => h) (Or.inl ⟨by rfl, ?_⟩) hHeld ?_ ?_
        rotate_left
        · rintro w' ⟨s0, s1, s2, s3, s4, s5, s6, s7, s8, s9, s10, s11, s12, s13, s14, s15, s16, s17⟩
          go_simp
          with_reducible rfl
        rotate_left
        · simp only [Act.put, List.setIfInBounds_toArray, List.set_cons_zero, List.set_cons_succ, i64_w, i32_w]
          rfl
        refine one_ (i := 2) (N := (some 25)) #[true, true, true, true, false, false, false] rfl rfl (by kernel_rfl) (by decide) (fun K hK => ?_)
        refine goes_ Tryd.func12 (by kernel_rfl) rfl #[(.agg #[.string x.key, .string x.second, .slice An1 x.names.length cn1, .int .i64 x.asked, .int .i64 x.came, .int .i64 x.status, .slice Af1 (flds x.fields).length cf1, .slice Ab1 x.body.length cb1, .int .i64 x.gen])] (by rfl) rfl rfl (by (try simp only [List.map_toArray, List.map_cons, List.map_nil]); first | done | rfl) ?_
        refine (made_any HD.out.1 HX.out).mono ?_
        rintro e w6 ⟨v25, rfl, h25, hb6⟩
        have H6 : Fact (Ent (fun _ => False) w6 (.agg #[.string x.key, .string x.second, .slice An1 x.names.length cn1, .int .i64 x.asked, .int .i64 x.came, .int .i64 x.status, .slice Af1 (flds x.fields).length cf1, .slice Ab1 x.body.length cb1, .int .i64 x.gen]) x ∧ Ent (fun _ => False) w6 (.agg #[.string y.key, .string y.second, .slice An2 y.names.length cn2, .int .i64 y.asked, .int .i64 y.came, .int .i64 y.status, .slice Af2 (flds y.fields).length cf2, .slice Ab2 y.body.length cb2, .int .i64 y.gen]) y ∧ Below w.heap.size w w6 ∧ w6.heap[w.heap.size]? = some (.cells #[.string x.key, .string x.second, .slice An1 x.names.length cn1, .int .i64 x.asked, .int .i64 x.came, .int .i64 x.status, .slice Af1 (flds x.fields).length cf1, .slice Ab1 x.body.length cb1, .int .i64 x.gen] 27 (0, 0)) ∧ w6.heap[w.heap.size + 1]? = some (.cells #[.string y.key, .string y.second, .slice An2 y.names.length cn2, .int .i64 y.asked, .int .i64 y.came, .int .i64 y.status, .slice Af2 (flds y.fields).length cf2, .slice Ab2 y.body.length cb2, .int .i64 y.gen] 27 (0, 0))) := ⟨HD.out.1.new hb6, HD.out.2.1.new hb6, next_new HD.out.2.2.1 hb6, (hb6.block _ (Array.getElem?_eq_some_iff.1 HD.out.2.2.2.1).1).trans HD.out.2.2.2.1, (hb6.block _ (Array.getElem?_eq_some_iff.1 HD.out.2.2.2.2).1).trans HD.out.2.2.2.2⟩
        have E6 := Fact.mk h25
        clear h25 hb6 HD
        replace hHeld := held2 (nine H6.out.2.2.2.1) (nine H6.out.2.2.2.2)
        refine ⟨_, rfl, ?_⟩
        refine hK.out _ _ hHeld (fun hxx => ?_)
        clear hK K hxx
        refine norm_ (a' := ?_) ?_ ?_
        rotate_left
        · show Act.put _ (some 25) _ = _
          simp only [Act.put, List.setIfInBounds_toArray, List.set_cons_zero, List.set_cons_succ, i64_w, i32_w]
          rfl
        refine one_ (i := 4) (N := (some 27)) #[true, true, true, true, true, false, false] rfl rfl (by kernel_rfl) (by decide) (fun K hK => ?_)
        refine goes_ Tryd.func12 (by kernel_rfl) rfl #[(.agg #[.string y.key, .string y.second, .slice An2 y.names.length cn2, .int .i64 y.asked, .int .i64 y.came, .int .i64 y.status, .slice Af2 (flds y.fields).length cf2, .slice Ab2 y.body.length cb2, .int .i64 y.gen])] (by rfl) rfl rfl (by (try simp only [List.map_toArray, List.map_cons, List.map_nil]); first | done | rfl) ?_
        refine (made_any H6.out.2.1 HY.out).mono ?_
        rintro e w7 ⟨v27, rfl, h27, hb7⟩
        have H7 : Fact (Ent (fun _ => False) w7 (.agg #[.string x.key, .string x.second, .slice An1 x.names.length cn1, .int .i64 x.asked, .int .i64 x.came, .int .i64 x.status, .slice Af1 (flds x.fields).length cf1, .slice Ab1 x.body.length cb1, .int .i64 x.gen]) x ∧ Ent (fun _ => False) w7 (.agg #[.string y.key, .string y.second, .slice An2 y.names.length cn2, .int .i64 y.asked, .int .i64 y.came, .int .i64 y.status, .slice Af2 (flds y.fields).length cf2, .slice Ab2 y.body.length cb2, .int .i64 y.gen]) y ∧ Below w.heap.size w w7 ∧ w7.heap[w.heap.size]? = some (.cells #[.string x.key, .string x.second, .slice An1 x.names.length cn1, .int .i64 x.asked, .int .i64 x.came, .int .i64 x.status, .slice Af1 (flds x.fields).length cf1, .slice Ab1 x.body.length cb1, .int .i64 x.gen] 27 (0, 0)) ∧ w7.heap[w.heap.size + 1]? = some (.cells #[.string y.key, .string y.second, .slice An2 y.names.length cn2, .int .i64 y.asked, .int .i64 y.came, .int .i64 y.status, .slice Af2 (flds y.fields).length cf2, .slice Ab2 y.body.length cb2, .int .i64 y.gen] 27 (0, 0))) := ⟨H6.out.1.new hb7, H6.out.2.1.new hb7, next_new H6.out.2.2.1 hb7, (hb7.block _ (Array.getElem?_eq_some_iff.1 H6.out.2.2.2.1).1).trans H6.out.2.2.2.1, (hb7.block _ (Array.getElem?_eq_some_iff.1 H6.out.2.2.2.2).1).trans H6.out.2.2.2.2⟩
        have E7 := Fact.mk h27
        have E6b := Fact.mk (E6.out.new hb7)
        clear h27 hb7 H6 E6
        replace hHeld := held2 (nine H7.out.2.2.2.1) (nine H7.out.2.2.2.2)
        refine ⟨_, rfl, ?_⟩
        refine hK.out _ _ hHeld (fun hxx => ?_)
        clear hK K hxx
        refine norm_ (a' := ?_) ?_ ?_
        rotate_left
        · show Act.put _ (some 27) _ = _
          simp only [Act.put, List.setIfInBounds_toArray, List.set_cons_zero, List.set_cons_succ, i64_w, i32_w]
          rfl
        refine one_ (i := 5) (N := (some 28)) #[true, true, true, true, true, true, false] rfl rfl (by kernel_rfl) (by decide) (fun K hK => ?_)
        refine goes_ Tryd.func20 (by kernel_rfl) rfl #[v25, v27] (by rfl) rfl rfl (by (try simp only [List.map_toArray, List.map_cons, List.map_nil]); first | done | rfl) ?_
        refine (rsame_any E6b.out E7.out HX.out HY.out).mono ?_
        rw [hs]
        rintro e w8 ⟨rfl, hb8⟩
        have H8 : Fact (Ent (fun _ => False) w8 (.agg #[.string x.key, .string x.second, .slice An1 x.names.length cn1, .int .i64 x.asked, .int .i64 x.came, .int .i64 x.status, .slice Af1 (flds x.fields).length cf1, .slice Ab1 x.body.length cb1, .int .i64 x.gen]) x ∧ Ent (fun _ => False) w8 (.agg #[.string y.key, .string y.second, .slice An2 y.names.length cn2, .int .i64 y.asked, .int .i64 y.came, .int .i64 y.status, .slice Af2 (flds y.fields).length cf2, .slice Ab2 y.body.length cb2, .int .i64 y.gen]) y ∧ Below w.heap.size w w8 ∧ w8.heap[w.heap.size]? = some (.cells #[.string x.key, .string x.second, .slice An1 x.names.length cn1, .int .i64 x.asked, .int .i64 x.came, .int .i64 x.status, .slice Af1 (flds x.fields).length cf1, .slice Ab1 x.body.length cb1, .int .i64 x.gen] 27 (0, 0)) ∧ w8.heap[w.heap.size + 1]? = some (.cells #[.string y.key, .string y.second, .slice An2 y.names.length cn2, .int .i64 y.asked, .int .i64 y.came, .int .i64 y.status, .slice Af2 (flds y.fields).length cf2, .slice Ab2 y.body.length cb2, .int .i64 y.gen] 27 (0, 0))) := ⟨H7.out.1.new hb8, H7.out.2.1.new hb8, next_new H7.out.2.2.1 hb8, (hb8.block _ (Array.getElem?_eq_some_iff.1 H7.out.2.2.2.1).1).trans H7.out.2.2.2.1, (hb8.block _ (Array.getElem?_eq_some_iff.1 H7.out.2.2.2.2).1).trans H7.out.2.2.2.2⟩
        clear hb8 H7 E6b E7
        replace hHeld := held2 (nine H8.out.2.2.2.1) (nine H8.out.2.2.2.2)
        refine ⟨_, rfl, ?_⟩
        refine hK.out _ _ hHeld (fun hxx => ?_)
        clear hK K hxx
        refine norm_ (a' := ?_) ?_ ?_
        rotate_left
        · show Act.put _ (some 28) _ = _
          simp only [Act.put, List.setIfInBounds_toArray, List.set_cons_zero, List.set_cons_succ, i64_w, i32_w]
          rfl
        refine pure_ (i := 6) (N := (some 29)) (v := ?_) (a' := ?_) #[true, true, true, true, true, true, true] rfl rfl (by kernel_rfl) (fun _ _ _ h => h) (Or.inl ⟨by rfl, ?_⟩) ?_ ?_
        rotate_left
        · intro w'
          go_simp
          with_reducible rfl
        rotate_left
        · simp only [Act.put, List.setIfInBounds_toArray, List.set_cons_zero, List.set_cons_succ, i64_w, i32_w]
          rfl
        refine done_ (by kernel_rfl) ?_
        clear hHeld
        obtain ⟨x0, x1, x2, x3, x4, x5, x6, x7, x8⟩ := nine H8.out.2.2.2.1
        obtain ⟨y0, y1, y2, y3, y4, y5, y6, y7, y8⟩ := nine H8.out.2.2.2.2
        go_wp2_with fail
        refine (enc_any H8.out.1 HX.out 3).mono ?_
        rintro e w9 ⟨vp, rfl, hR9, hb9⟩
        have H9 : Fact (Ent (fun _ => False) w9 (.agg #[.string x.key, .string x.second, .slice An1 x.names.length cn1, .int .i64 x.asked, .int .i64 x.came, .int .i64 x.status, .slice Af1 (flds x.fields).length cf1, .slice Ab1 x.body.length cb1, .int .i64 x.gen]) x ∧ Ent (fun _ => False) w9 (.agg #[.string y.key, .string y.second, .slice An2 y.names.length cn2, .int .i64 y.asked, .int .i64 y.came, .int .i64 y.status, .slice Af2 (flds y.fields).length cf2, .slice Ab2 y.body.length cb2, .int .i64 y.gen]) y ∧ Below w.heap.size w w9 ∧ w9.heap[w.heap.size]? = some (.cells #[.string x.key, .string x.second, .slice An1 x.names.length cn1, .int .i64 x.asked, .int .i64 x.came, .int .i64 x.status, .slice Af1 (flds x.fields).length cf1, .slice Ab1 x.body.length cb1, .int .i64 x.gen] 27 (0, 0)) ∧ w9.heap[w.heap.size + 1]? = some (.cells #[.string y.key, .string y.second, .slice An2 y.names.length cn2, .int .i64 y.asked, .int .i64 y.came, .int .i64 y.status, .slice Af2 (flds y.fields).length cf2, .slice Ab2 y.body.length cb2, .int .i64 y.gen] 27 (0, 0))) := ⟨H8.out.1.new hb9, H8.out.2.1.new hb9, next_new H8.out.2.2.1 hb9, (hb9.block _ (Array.getElem?_eq_some_iff.1 H8.out.2.2.2.1).1).trans H8.out.2.2.2.1, (hb9.block _ (Array.getElem?_eq_some_iff.1 H8.out.2.2.2.2).1).trans H8.out.2.2.2.2⟩
        clear hb9 H8 x0 x1 x2 x3 x4 x5 x6 x7 x8 y0 y1 y2 y3 y4 y5 y6 y7 y8
        obtain ⟨x0, x1, x2, x3, x4, x5, x6, x7, x8⟩ := nine H9.out.2.2.2.1
        obtain ⟨y0, y1, y2, y3, y4, y5, y6, y7, y8⟩ := nine H9.out.2.2.2.2
        by_cases c4 : (encP 3 x).2 = 0
        rotate_left
        · clear hR9
          go_wp2_with fail
          refine (enc_any H9.out.2.1 HY.out 3).mono ?_
          rintro e w10 ⟨vq, rfl, -, hb10⟩
          have H10 : Fact (Ent (fun _ => False) w10 (.agg #[.string x.key, .string x.second, .slice An1 x.names.length cn1, .int .i64 x.asked, .int .i64 x.came, .int .i64 x.status, .slice Af1 (flds x.fields).length cf1, .slice Ab1 x.body.length cb1, .int .i64 x.gen]) x ∧ Ent (fun _ => False) w10 (.agg #[.string y.key, .string y.second, .slice An2 y.names.length cn2, .int .i64 y.asked, .int .i64 y.came, .int .i64 y.status, .slice Af2 (flds y.fields).length cf2, .slice Ab2 y.body.length cb2, .int .i64 y.gen]) y ∧ Below w.heap.size w w10 ∧ w10.heap[w.heap.size]? = some (.cells #[.string x.key, .string x.second, .slice An1 x.names.length cn1, .int .i64 x.asked, .int .i64 x.came, .int .i64 x.status, .slice Af1 (flds x.fields).length cf1, .slice Ab1 x.body.length cb1, .int .i64 x.gen] 27 (0, 0)) ∧ w10.heap[w.heap.size + 1]? = some (.cells #[.string y.key, .string y.second, .slice An2 y.names.length cn2, .int .i64 y.asked, .int .i64 y.came, .int .i64 y.status, .slice Af2 (flds y.fields).length cf2, .slice Ab2 y.body.length cb2, .int .i64 y.gen] 27 (0, 0))) := ⟨H9.out.1.new hb10, H9.out.2.1.new hb10, next_new H9.out.2.2.1 hb10, (hb10.block _ (Array.getElem?_eq_some_iff.1 H9.out.2.2.2.1).1).trans H9.out.2.2.2.1, (hb10.block _ (Array.getElem?_eq_some_iff.1 H9.out.2.2.2.2).1).trans H9.out.2.2.2.2⟩
          clear hb10 H9 x0 x1 x2 x3 x4 x5 x6 x7 x8 y0 y1 y2 y3 y4 y5 y6 y7 y8
          go_wp2_with fail
          go_ret
          exact ⟨rfl, H10.out.2.2.1⟩
        obtain ⟨he, hf, hl⟩ := encP_ok c4
        rw [he] at hR9
        rw [c4]
        have hp9 : 0 < (recOf 3 (restP 3 x)).length := by rw [recOf_len]; omega
        obtain ⟨g, cap, rfl, -, -, hcap, hR9⟩ := bytes_form hR9 hp9
        dsimp only at hcap hR9 ⊢
        have HR9 := Fact.mk (Kd.R_reads' hR9).2.2
        clear hR9
        clear hR9
        go_wp2_with fail
        refine (enc_any H9.out.2.1 HY.out 3).mono ?_
        rintro e w10 ⟨vq, rfl, hR10, hb10⟩
        have H10 : Fact (Ent (fun _ => False) w10 (.agg #[.string x.key, .string x.second, .slice An1 x.names.length cn1, .int .i64 x.asked, .int .i64 x.came, .int .i64 x.status, .slice Af1 (flds x.fields).length cf1, .slice Ab1 x.body.length cb1, .int .i64 x.gen]) x ∧ Ent (fun _ => False) w10 (.agg #[.string y.key, .string y.second, .slice An2 y.names.length cn2, .int .i64 y.asked, .int .i64 y.came, .int .i64 y.status, .slice Af2 (flds y.fields).length cf2, .slice Ab2 y.body.length cb2, .int .i64 y.gen]) y ∧ Below w.heap.size w w10 ∧ w10.heap[w.heap.size]? = some (.cells #[.string x.key, .string x.second, .slice An1 x.names.length cn1, .int .i64 x.asked, .int .i64 x.came, .int .i64 x.status, .slice Af1 (flds x.fields).length cf1, .slice Ab1 x.body.length cb1, .int .i64 x.gen] 27 (0, 0)) ∧ w10.heap[w.heap.size + 1]? = some (.cells #[.string y.key, .string y.second, .slice An2 y.names.length cn2, .int .i64 y.asked, .int .i64 y.came, .int .i64 y.status, .slice Af2 (flds y.fields).length cf2, .slice Ab2 y.body.length cb2, .int .i64 y.gen] 27 (0, 0))) := ⟨H9.out.1.new hb10, H9.out.2.1.new hb10, next_new H9.out.2.2.1 hb10, (hb10.block _ (Array.getElem?_eq_some_iff.1 H9.out.2.2.2.1).1).trans H9.out.2.2.2.1, (hb10.block _ (Array.getElem?_eq_some_iff.1 H9.out.2.2.2.2).1).trans H9.out.2.2.2.2⟩
        have HR9b := Fact.mk (Kd.C_below HR9.out hb10)
        clear hb10 H9 HR9 x0 x1 x2 x3 x4 x5 x6 x7 x8 y0 y1 y2 y3 y4 y5 y6 y7 y8
        by_cases c5 : (encP 3 y).2 = 0
        rotate_left
        · clear hR10
          go_wp2_with fail
          go_ret
          exact ⟨rfl, H10.out.2.2.1⟩
        obtain ⟨he5, hf5, hl5⟩ := encP_ok c5
        rw [he5] at hR10
        rw [c5]
        have hp10 : 0 < (recOf 3 (restP 3 y)).length := by rw [recOf_len]; omega
        obtain ⟨g2, cap2, rfl, -, -, hcap2, hR10⟩ := bytes_form hR10 hp10
        dsimp only at hcap2 hR10 ⊢
        have cv1 := bytes_str (c := cap) HR9b.out
        have cv2 := bytes_str (c := cap2) (Kd.R_reads' hR10).2.2
        have hse : ((strOfNums (recOf 3 (restP 3 x))).toList == (strOfNums (recOf 3 (restP 3 y))).toList) = true := by
          rw [tl_beq]
          rw [sameP_true.1 hs]; exact decide_eq_true rfl
        clear hR10 HR9b he he5 c4 c5
        clear hR10
        generalize strOfNums (recOf 3 (restP 3 x)) = s1 at *
        generalize strOfNums (recOf 3 (restP 3 y)) = s2 at *
        generalize recOf 3 (restP 3 x) = L1 at *
        generalize recOf 3 (restP 3 y) = L2 at *
        go_wp2_with fail
        go_ret
        exact ⟨rfl, H10.out.2.2.1⟩
      | false =>
        go_wp2_with fail
        skip
        refine start_ (n := 7) (S := fun w' => w'.cell? ⟨w.heap.size, 0, none⟩ = some (.string x.key) ∧ w'.cell? ⟨w.heap.size, 1, none⟩ = some (.string x.second) ∧ w'.cell? ⟨w.heap.size, 2, none⟩ = some (.slice An1 x.names.length cn1) ∧ w'.cell? ⟨w.heap.size, 3, none⟩ = some (.int .i64 x.asked) ∧ w'.cell? ⟨w.heap.size, 4, none⟩ = some (.int .i64 x.came) ∧ w'.cell? ⟨w.heap.size, 5, none⟩ = some (.int .i64 x.status) ∧ w'.cell? ⟨w.heap.size, 6, none⟩ = some (.slice Af1 (flds x.fields).length cf1) ∧ w'.cell? ⟨w.heap.size, 7, none⟩ = some (.slice Ab1 x.body.length cb1) ∧ w'.cell? ⟨w.heap.size, 8, none⟩ = some (.int .i64 x.gen) ∧ w'.cell? ⟨w.heap.size + 1, 0, none⟩ = some (.string y.key) ∧ w'.cell? ⟨w.heap.size + 1, 1, none⟩ = some (.string y.second) ∧ w'.cell? ⟨w.heap.size + 1, 2, none⟩ = some (.slice An2 y.names.length cn2) ∧ w'.cell? ⟨w.heap.size + 1, 3, none⟩ = some (.int .i64 y.asked) ∧ w'.cell? ⟨w.heap.size + 1, 4, none⟩ = some (.int .i64 y.came) ∧ w'.cell? ⟨w.heap.size + 1, 5, none⟩ = some (.int .i64 y.status) ∧ w'.cell? ⟨w.heap.size + 1, 6, none⟩ = some (.slice Af2 (flds y.fields).length cf2) ∧ w'.cell? ⟨w.heap.size + 1, 7, none⟩ = some (.slice Ab2 y.body.length cb2) ∧ w'.cell? ⟨w.heap.size + 1, 8, none⟩ = some (.int .i64 y.gen)) (ds := []) #[false, false, false, false, false, false, false] (by kernel_rfl) rfl rfl (held2 (nine (show (w5.drew).heap[w.heap.size]? = some (.cells #[.string x.key, .string x.second, .slice An1 x.names.length cn1, .int .i64 x.asked, .int .i64 x.came, .int .i64 x.status, .slice Af1 (flds x.fields).length cf1, .slice Ab1 x.body.length cb1, .int .i64 x.gen] 27 (0, 0)) from H5.out.2.2.2.1)) (nine (show (w5.drew).heap[w.heap.size + 1]? = some (.cells #[.string y.key, .string y.second, .slice An2 y.names.length cn2, .int .i64 y.asked, .int .i64 y.came, .int .i64 y.status, .slice Af2 (flds y.fields).length cf2, .slice Ab2 y.body.length cb2, .int .i64 y.gen] 27 (0, 0)) from H5.out.2.2.2.2))) (fun hHeld => ?_)
        have HD : Fact (Ent (fun _ => False) w5.drew (.agg #[.string x.key, .string x.second, .slice An1 x.names.length cn1, .int .i64 x.asked, .int .i64 x.came, .int .i64 x.status, .slice Af1 (flds x.fields).length cf1, .slice Ab1 x.body.length cb1, .int .i64 x.gen]) x ∧ Ent (fun _ => False) w5.drew (.agg #[.string y.key, .string y.second, .slice An2 y.names.length cn2, .int .i64 y.asked, .int .i64 y.came, .int .i64 y.status, .slice Af2 (flds y.fields).length cf2, .slice Ab2 y.body.length cb2, .int .i64 y.gen]) y ∧ Below w.heap.size w w5.drew ∧ w5.drew.heap[w.heap.size]? = some (.cells #[.string x.key, .string x.second, .slice An1 x.names.length cn1, .int .i64 x.asked, .int .i64 x.came, .int .i64 x.status, .slice Af1 (flds x.fields).length cf1, .slice Ab1 x.body.length cb1, .int .i64 x.gen] 27 (0, 0)) ∧ w5.drew.heap[w.heap.size + 1]? = some (.cells #[.string y.key, .string y.second, .slice An2 y.names.length cn2, .int .i64 y.asked, .int .i64 y.came, .int .i64 y.status, .slice Af2 (flds y.fields).length cf2, .slice Ab2 y.body.length cb2, .int .i64 y.gen] 27 (0, 0))) := ⟨H5.out.1.new (Below.refl _ _).drew, H5.out.2.1.new (Below.refl _ _).drew, H5.out.2.2.1.drew, H5.out.2.2.2.1, H5.out.2.2.2.2⟩
        clear H5
        generalize w5.drew = W at *
        skip
        refine pure_ (i := 0) (N := (some 23)) (v := ?_) (a' := ?_) #[true, false, false, false, false, false, false] rfl rfl (by kernel_rfl) (fun _ _ _ h => h) (Or.inl ⟨by rfl, ?_⟩) ?_ ?_
        rotate_left
        · intro w'
          go_simp
          with_reducible rfl
        rotate_left
        · simp only [Act.put, List.setIfInBounds_toArray, List.set_cons_zero, List.set_cons_succ, i64_w, i32_w]
          rfl
        refine take_ (i := 1) (N := (some 24)) (v := ?_) (a' := ?_) #[true, true, false, false, false, false, false] rfl rfl (by kernel_rfl) (fun _ _ _ h => h) (Or.inl ⟨by rfl, ?_⟩) hHeld ?_ ?_
        rotate_left
        · rintro w' ⟨s0, s1, s2, s3, s4, s5, s6, s7, s8, s9, s10, s11, s12, s13, s14, s15, s16, s17⟩
          go_simp
          with_reducible rfl
        rotate_left
        · simp only [Act.put, List.setIfInBounds_toArray, List.set_cons_zero, List.set_cons_succ, i64_w, i32_w]
          rfl
        refine take_ (i := 3) (N := (some 26)) (v := ?_) (a' := ?_) #[true, true, false, true, false, false, false] rfl rfl (by kernel_rfl) (fun _ _ _ h => h) (Or.inl ⟨by rfl, ?_⟩) hHeld ?_ ?_
        rotate_left
        · rintro w' ⟨s0, s1, s2, s3, s4, s5, s6, s7, s8, s9, s10, s11, s12, s13, s14, s15, s16, s17⟩
          go_simp
          with_reducible rfl
        rotate_left
        · simp only [Act.put, List.setIfInBounds_toArray, List.set_cons_zero, List.set_cons_succ, i64_w, i32_w]
          rfl
        refine one_ (i := 2) (N := (some 25)) #[true, true, true, true, false, false, false] rfl rfl (by kernel_rfl) (by decide) (fun K hK => ?_)
        refine goes_ Tryd.func12 (by kernel_rfl) rfl #[(.agg #[.string x.key, .string x.second, .slice An1 x.names.length cn1, .int .i64 x.asked, .int .i64 x.came, .int .i64 x.status, .slice Af1 (flds x.fields).length cf1, .slice Ab1 x.body.length cb1, .int .i64 x.gen])] (by rfl) rfl rfl (by (try simp only [List.map_toArray, List.map_cons, List.map_nil]); first | done | rfl) ?_
        refine (made_any HD.out.1 HX.out).mono ?_
        rintro e w6 ⟨v25, rfl, h25, hb6⟩
        have H6 : Fact (Ent (fun _ => False) w6 (.agg #[.string x.key, .string x.second, .slice An1 x.names.length cn1, .int .i64 x.asked, .int .i64 x.came, .int .i64 x.status, .slice Af1 (flds x.fields).length cf1, .slice Ab1 x.body.length cb1, .int .i64 x.gen]) x ∧ Ent (fun _ => False) w6 (.agg #[.string y.key, .string y.second, .slice An2 y.names.length cn2, .int .i64 y.asked, .int .i64 y.came, .int .i64 y.status, .slice Af2 (flds y.fields).length cf2, .slice Ab2 y.body.length cb2, .int .i64 y.gen]) y ∧ Below w.heap.size w w6 ∧ w6.heap[w.heap.size]? = some (.cells #[.string x.key, .string x.second, .slice An1 x.names.length cn1, .int .i64 x.asked, .int .i64 x.came, .int .i64 x.status, .slice Af1 (flds x.fields).length cf1, .slice Ab1 x.body.length cb1, .int .i64 x.gen] 27 (0, 0)) ∧ w6.heap[w.heap.size + 1]? = some (.cells #[.string y.key, .string y.second, .slice An2 y.names.length cn2, .int .i64 y.asked, .int .i64 y.came, .int .i64 y.status, .slice Af2 (flds y.fields).length cf2, .slice Ab2 y.body.length cb2, .int .i64 y.gen] 27 (0, 0))) := ⟨HD.out.1.new hb6, HD.out.2.1.new hb6, next_new HD.out.2.2.1 hb6, (hb6.block _ (Array.getElem?_eq_some_iff.1 HD.out.2.2.2.1).1).trans HD.out.2.2.2.1, (hb6.block _ (Array.getElem?_eq_some_iff.1 HD.out.2.2.2.2).1).trans HD.out.2.2.2.2⟩
        have E6 := Fact.mk h25
        clear h25 hb6 HD
        replace hHeld := held2 (nine H6.out.2.2.2.1) (nine H6.out.2.2.2.2)
        refine ⟨_, rfl, ?_⟩
        refine hK.out _ _ hHeld (fun hxx => ?_)
        clear hK K hxx
        refine norm_ (a' := ?_) ?_ ?_
        rotate_left
        · show Act.put _ (some 25) _ = _
          simp only [Act.put, List.setIfInBounds_toArray, List.set_cons_zero, List.set_cons_succ, i64_w, i32_w]
          rfl
        refine one_ (i := 4) (N := (some 27)) #[true, true, true, true, true, false, false] rfl rfl (by kernel_rfl) (by decide) (fun K hK => ?_)
        refine goes_ Tryd.func12 (by kernel_rfl) rfl #[(.agg #[.string y.key, .string y.second, .slice An2 y.names.length cn2, .int .i64 y.asked, .int .i64 y.came, .int .i64 y.status, .slice Af2 (flds y.fields).length cf2, .slice Ab2 y.body.length cb2, .int .i64 y.gen])] (by rfl) rfl rfl (by (try simp only [List.map_toArray, List.map_cons, List.map_nil]); first | done | rfl) ?_
        refine (made_any H6.out.2.1 HY.out).mono ?_
        rintro e w7 ⟨v27, rfl, h27, hb7⟩
        have H7 : Fact (Ent (fun _ => False) w7 (.agg #[.string x.key, .string x.second, .slice An1 x.names.length cn1, .int .i64 x.asked, .int .i64 x.came, .int .i64 x.status, .slice Af1 (flds x.fields).length cf1, .slice Ab1 x.body.length cb1, .int .i64 x.gen]) x ∧ Ent (fun _ => False) w7 (.agg #[.string y.key, .string y.second, .slice An2 y.names.length cn2, .int .i64 y.asked, .int .i64 y.came, .int .i64 y.status, .slice Af2 (flds y.fields).length cf2, .slice Ab2 y.body.length cb2, .int .i64 y.gen]) y ∧ Below w.heap.size w w7 ∧ w7.heap[w.heap.size]? = some (.cells #[.string x.key, .string x.second, .slice An1 x.names.length cn1, .int .i64 x.asked, .int .i64 x.came, .int .i64 x.status, .slice Af1 (flds x.fields).length cf1, .slice Ab1 x.body.length cb1, .int .i64 x.gen] 27 (0, 0)) ∧ w7.heap[w.heap.size + 1]? = some (.cells #[.string y.key, .string y.second, .slice An2 y.names.length cn2, .int .i64 y.asked, .int .i64 y.came, .int .i64 y.status, .slice Af2 (flds y.fields).length cf2, .slice Ab2 y.body.length cb2, .int .i64 y.gen] 27 (0, 0))) := ⟨H6.out.1.new hb7, H6.out.2.1.new hb7, next_new H6.out.2.2.1 hb7, (hb7.block _ (Array.getElem?_eq_some_iff.1 H6.out.2.2.2.1).1).trans H6.out.2.2.2.1, (hb7.block _ (Array.getElem?_eq_some_iff.1 H6.out.2.2.2.2).1).trans H6.out.2.2.2.2⟩
        have E7 := Fact.mk h27
        have E6b := Fact.mk (E6.out.new hb7)
        clear h27 hb7 H6 E6
        replace hHeld := held2 (nine H7.out.2.2.2.1) (nine H7.out.2.2.2.2)
        refine ⟨_, rfl, ?_⟩
        refine hK.out _ _ hHeld (fun hxx => ?_)
        clear hK K hxx
        refine norm_ (a' := ?_) ?_ ?_
        rotate_left
        · show Act.put _ (some 27) _ = _
          simp only [Act.put, List.setIfInBounds_toArray, List.set_cons_zero, List.set_cons_succ, i64_w, i32_w]
          rfl
        refine one_ (i := 5) (N := (some 28)) #[true, true, true, true, true, true, false] rfl rfl (by kernel_rfl) (by decide) (fun K hK => ?_)
        refine goes_ Tryd.func20 (by kernel_rfl) rfl #[v25, v27] (by rfl) rfl rfl (by (try simp only [List.map_toArray, List.map_cons, List.map_nil]); first | done | rfl) ?_
        refine (rsame_any E6b.out E7.out HX.out HY.out).mono ?_
        rw [hs]
        rintro e w8 ⟨rfl, hb8⟩
        have H8 : Fact (Ent (fun _ => False) w8 (.agg #[.string x.key, .string x.second, .slice An1 x.names.length cn1, .int .i64 x.asked, .int .i64 x.came, .int .i64 x.status, .slice Af1 (flds x.fields).length cf1, .slice Ab1 x.body.length cb1, .int .i64 x.gen]) x ∧ Ent (fun _ => False) w8 (.agg #[.string y.key, .string y.second, .slice An2 y.names.length cn2, .int .i64 y.asked, .int .i64 y.came, .int .i64 y.status, .slice Af2 (flds y.fields).length cf2, .slice Ab2 y.body.length cb2, .int .i64 y.gen]) y ∧ Below w.heap.size w w8 ∧ w8.heap[w.heap.size]? = some (.cells #[.string x.key, .string x.second, .slice An1 x.names.length cn1, .int .i64 x.asked, .int .i64 x.came, .int .i64 x.status, .slice Af1 (flds x.fields).length cf1, .slice Ab1 x.body.length cb1, .int .i64 x.gen] 27 (0, 0)) ∧ w8.heap[w.heap.size + 1]? = some (.cells #[.string y.key, .string y.second, .slice An2 y.names.length cn2, .int .i64 y.asked, .int .i64 y.came, .int .i64 y.status, .slice Af2 (flds y.fields).length cf2, .slice Ab2 y.body.length cb2, .int .i64 y.gen] 27 (0, 0))) := ⟨H7.out.1.new hb8, H7.out.2.1.new hb8, next_new H7.out.2.2.1 hb8, (hb8.block _ (Array.getElem?_eq_some_iff.1 H7.out.2.2.2.1).1).trans H7.out.2.2.2.1, (hb8.block _ (Array.getElem?_eq_some_iff.1 H7.out.2.2.2.2).1).trans H7.out.2.2.2.2⟩
        clear hb8 H7 E6b E7
        replace hHeld := held2 (nine H8.out.2.2.2.1) (nine H8.out.2.2.2.2)
        refine ⟨_, rfl, ?_⟩
        refine hK.out _ _ hHeld (fun hxx => ?_)
        clear hK K hxx
        refine norm_ (a' := ?_) ?_ ?_
        rotate_left
        · show Act.put _ (some 28) _ = _
          simp only [Act.put, List.setIfInBounds_toArray, List.set_cons_zero, List.set_cons_succ, i64_w, i32_w]
          rfl
        refine pure_ (i := 6) (N := (some 29)) (v := ?_) (a' := ?_) #[true, true, true, true, true, true, true] rfl rfl (by kernel_rfl) (fun _ _ _ h => h) (Or.inl ⟨by rfl, ?_⟩) ?_ ?_
        rotate_left
        · intro w'
          go_simp
          with_reducible rfl
        rotate_left
        · simp only [Act.put, List.setIfInBounds_toArray, List.set_cons_zero, List.set_cons_succ, i64_w, i32_w]
          rfl
        refine done_ (by kernel_rfl) ?_
        clear hHeld
        obtain ⟨x0, x1, x2, x3, x4, x5, x6, x7, x8⟩ := nine H8.out.2.2.2.1
        obtain ⟨y0, y1, y2, y3, y4, y5, y6, y7, y8⟩ := nine H8.out.2.2.2.2
        go_wp2_with fail
        refine (enc_any H8.out.1 HX.out 3).mono ?_
        rintro e w9 ⟨vp, rfl, hR9, hb9⟩
        have H9 : Fact (Ent (fun _ => False) w9 (.agg #[.string x.key, .string x.second, .slice An1 x.names.length cn1, .int .i64 x.asked, .int .i64 x.came, .int .i64 x.status, .slice Af1 (flds x.fields).length cf1, .slice Ab1 x.body.length cb1, .int .i64 x.gen]) x ∧ Ent (fun _ => False) w9 (.agg #[.string y.key, .string y.second, .slice An2 y.names.length cn2, .int .i64 y.asked, .int .i64 y.came, .int .i64 y.status, .slice Af2 (flds y.fields).length cf2, .slice Ab2 y.body.length cb2, .int .i64 y.gen]) y ∧ Below w.heap.size w w9 ∧ w9.heap[w.heap.size]? = some (.cells #[.string x.key, .string x.second, .slice An1 x.names.length cn1, .int .i64 x.asked, .int .i64 x.came, .int .i64 x.status, .slice Af1 (flds x.fields).length cf1, .slice Ab1 x.body.length cb1, .int .i64 x.gen] 27 (0, 0)) ∧ w9.heap[w.heap.size + 1]? = some (.cells #[.string y.key, .string y.second, .slice An2 y.names.length cn2, .int .i64 y.asked, .int .i64 y.came, .int .i64 y.status, .slice Af2 (flds y.fields).length cf2, .slice Ab2 y.body.length cb2, .int .i64 y.gen] 27 (0, 0))) := ⟨H8.out.1.new hb9, H8.out.2.1.new hb9, next_new H8.out.2.2.1 hb9, (hb9.block _ (Array.getElem?_eq_some_iff.1 H8.out.2.2.2.1).1).trans H8.out.2.2.2.1, (hb9.block _ (Array.getElem?_eq_some_iff.1 H8.out.2.2.2.2).1).trans H8.out.2.2.2.2⟩
        clear hb9 H8 x0 x1 x2 x3 x4 x5 x6 x7 x8 y0 y1 y2 y3 y4 y5 y6 y7 y8
        obtain ⟨x0, x1, x2, x3, x4, x5, x6, x7, x8⟩ := nine H9.out.2.2.2.1
        obtain ⟨y0, y1, y2, y3, y4, y5, y6, y7, y8⟩ := nine H9.out.2.2.2.2
        by_cases c4 : (encP 3 x).2 = 0
        rotate_left
        · clear hR9
          go_wp2_with fail
          refine (enc_any H9.out.2.1 HY.out 3).mono ?_
          rintro e w10 ⟨vq, rfl, -, hb10⟩
          have H10 : Fact (Ent (fun _ => False) w10 (.agg #[.string x.key, .string x.second, .slice An1 x.names.length cn1, .int .i64 x.asked, .int .i64 x.came, .int .i64 x.status, .slice Af1 (flds x.fields).length cf1, .slice Ab1 x.body.length cb1, .int .i64 x.gen]) x ∧ Ent (fun _ => False) w10 (.agg #[.string y.key, .string y.second, .slice An2 y.names.length cn2, .int .i64 y.asked, .int .i64 y.came, .int .i64 y.status, .slice Af2 (flds y.fields).length cf2, .slice Ab2 y.body.length cb2, .int .i64 y.gen]) y ∧ Below w.heap.size w w10 ∧ w10.heap[w.heap.size]? = some (.cells #[.string x.key, .string x.second, .slice An1 x.names.length cn1, .int .i64 x.asked, .int .i64 x.came, .int .i64 x.status, .slice Af1 (flds x.fields).length cf1, .slice Ab1 x.body.length cb1, .int .i64 x.gen] 27 (0, 0)) ∧ w10.heap[w.heap.size + 1]? = some (.cells #[.string y.key, .string y.second, .slice An2 y.names.length cn2, .int .i64 y.asked, .int .i64 y.came, .int .i64 y.status, .slice Af2 (flds y.fields).length cf2, .slice Ab2 y.body.length cb2, .int .i64 y.gen] 27 (0, 0))) := ⟨H9.out.1.new hb10, H9.out.2.1.new hb10, next_new H9.out.2.2.1 hb10, (hb10.block _ (Array.getElem?_eq_some_iff.1 H9.out.2.2.2.1).1).trans H9.out.2.2.2.1, (hb10.block _ (Array.getElem?_eq_some_iff.1 H9.out.2.2.2.2).1).trans H9.out.2.2.2.2⟩
          clear hb10 H9 x0 x1 x2 x3 x4 x5 x6 x7 x8 y0 y1 y2 y3 y4 y5 y6 y7 y8
          go_wp2_with fail
          go_ret
          exact ⟨rfl, H10.out.2.2.1⟩
        obtain ⟨he, hf, hl⟩ := encP_ok c4
        rw [he] at hR9
        rw [c4]
        have hp9 : 0 < (recOf 3 (restP 3 x)).length := by rw [recOf_len]; omega
        obtain ⟨g, cap, rfl, -, -, hcap, hR9⟩ := bytes_form hR9 hp9
        dsimp only at hcap hR9 ⊢
        have HR9 := Fact.mk (Kd.R_reads' hR9).2.2
        clear hR9
        clear hR9
        go_wp2_with fail
        refine (enc_any H9.out.2.1 HY.out 3).mono ?_
        rintro e w10 ⟨vq, rfl, hR10, hb10⟩
        have H10 : Fact (Ent (fun _ => False) w10 (.agg #[.string x.key, .string x.second, .slice An1 x.names.length cn1, .int .i64 x.asked, .int .i64 x.came, .int .i64 x.status, .slice Af1 (flds x.fields).length cf1, .slice Ab1 x.body.length cb1, .int .i64 x.gen]) x ∧ Ent (fun _ => False) w10 (.agg #[.string y.key, .string y.second, .slice An2 y.names.length cn2, .int .i64 y.asked, .int .i64 y.came, .int .i64 y.status, .slice Af2 (flds y.fields).length cf2, .slice Ab2 y.body.length cb2, .int .i64 y.gen]) y ∧ Below w.heap.size w w10 ∧ w10.heap[w.heap.size]? = some (.cells #[.string x.key, .string x.second, .slice An1 x.names.length cn1, .int .i64 x.asked, .int .i64 x.came, .int .i64 x.status, .slice Af1 (flds x.fields).length cf1, .slice Ab1 x.body.length cb1, .int .i64 x.gen] 27 (0, 0)) ∧ w10.heap[w.heap.size + 1]? = some (.cells #[.string y.key, .string y.second, .slice An2 y.names.length cn2, .int .i64 y.asked, .int .i64 y.came, .int .i64 y.status, .slice Af2 (flds y.fields).length cf2, .slice Ab2 y.body.length cb2, .int .i64 y.gen] 27 (0, 0))) := ⟨H9.out.1.new hb10, H9.out.2.1.new hb10, next_new H9.out.2.2.1 hb10, (hb10.block _ (Array.getElem?_eq_some_iff.1 H9.out.2.2.2.1).1).trans H9.out.2.2.2.1, (hb10.block _ (Array.getElem?_eq_some_iff.1 H9.out.2.2.2.2).1).trans H9.out.2.2.2.2⟩
        have HR9b := Fact.mk (Kd.C_below HR9.out hb10)
        clear hb10 H9 HR9 x0 x1 x2 x3 x4 x5 x6 x7 x8 y0 y1 y2 y3 y4 y5 y6 y7 y8
        by_cases c5 : (encP 3 y).2 = 0
        rotate_left
        · clear hR10
          go_wp2_with fail
          go_ret
          exact ⟨rfl, H10.out.2.2.1⟩
        obtain ⟨he5, hf5, hl5⟩ := encP_ok c5
        rw [he5] at hR10
        rw [c5]
        have hp10 : 0 < (recOf 3 (restP 3 y)).length := by rw [recOf_len]; omega
        obtain ⟨g2, cap2, rfl, -, -, hcap2, hR10⟩ := bytes_form hR10 hp10
        dsimp only at hcap2 hR10 ⊢
        have cv1 := bytes_str (c := cap) HR9b.out
        have cv2 := bytes_str (c := cap2) (Kd.R_reads' hR10).2.2
        have hse : ((strOfNums (recOf 3 (restP 3 x))).toList == (strOfNums (recOf 3 (restP 3 y))).toList) = false := by
          rw [tl_beq]
          refine decide_eq_false fun e => ?_
          replace e := Eq.mp (strOf_inj _ _ (recOf_rng 3 x) (recOf_rng 3 y)) e
          have d1 := dec_enc x 3 hf HX.out.bytes hl
          rw [e, dec_enc y 3 hf5 HY.out.bytes hl5] at d1
          have hxy : y = x := congrArg Prod.fst d1
          rw [hxy, sameP_self] at hs
          cases hs
        clear hR10 HR9b he he5 c4 c5
        clear hR10
        generalize strOfNums (recOf 3 (restP 3 x)) = s1 at *
        generalize strOfNums (recOf 3 (restP 3 y)) = s2 at *
        generalize recOf 3 (restP 3 x) = L1 at *
        generalize recOf 3 (restP 3 y) = L2 at *
        go_wp2_with fail
        go_ret
        exact ⟨rfl, H10.out.2.2.1⟩
end Go.Proofs.YtllnleokjcimhaaDoor.En
