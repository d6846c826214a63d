import Derived.Test.YtllnleokjcimhaaDoorZEntryFitsEnW
/-
What 'Turn' does.
-/
namespace Go.Proofs.YtllnleokjcimhaaDoor.En
open Go.RowKit Go.Maps Go.Proofs.YtllnleokjcimhaaDoorW.PrintWords Go.Proofs.YtllnleokjcimhaaDoorW.PrintLast Go.Proofs.YtllnleokjcimhaaDoorW.PrintMore Go.Proofs.YtllnleokjcimhaaDoor.P Go.Proofs.YtllnleokjcimhaaDoor.Pure
set_option linter.unusedVariables false
set_option linter.unusedSimpArgs false
theorem bnd_zP : Bnd zP := ⟨by decide, by decide, by decide, (fun s hs => by cases hs), by decide, (fun s hs => by cases hs), by decide, (fun s hs => by cases hs)⟩
theorem dec_bnd {l : List Int} (h : ∀ c ∈ l, 0 ≤ c ∧ c < 256) : Bnd (decP l).1 := by
  rcases enc_dec (x := (decP l).1) (v := (decP l).2.1) (e := (decP l).2.2) h rfl with h1 | h1
  · exact h1.2.2.2.2
  · rw [h1.2.1]; exact bnd_zP
def turnP (l : List Int) (n : Int) : List Int × Int := if (decP l).2.2 ≠ 0 then ([], (decP l).2.2) else encP n (decP l).1
set_option maxRecDepth 100000 in
theorem turn_any {w : World} {A : Option Addr} {c : Nat} {l : List Int} (hr : ReadB w A l.length l) (hc : l.length ≤ c) (hrng : ∀ x ∈ l, 0 ≤ x ∧ x < 256) (n : Int) :
    Calls Tryd.prog 23 #[.slice A l.length c, .int .i64 n] w fun e w' => ∃ vb, e = .returned (.tuple #[vb, .int .i64 (turnP l n).2]) ∧ Kd.R (Kd.int .u8) 5 w' w.heap.size (fun _ => True) vb (turnP l n).1 ∧ Below w.heap.size w w' := by
  have HB := Fact.mk (dec_bnd hrng)
  have HD := Fact.mk (dec_any hr hc hrng)
  clear hr hrng
  unfold turnP
  generalize (decP l).1 = x at *
  generalize (decP l).2.1 = v at *
  generalize (decP l).2.2 = err at *
  by_cases h0 : err ≠ 0
  · rw [if_pos h0]
    go_enter Tryd.func23, Tryd.ntmps23
    go_wp2_with fail
    refine HD.out.mono ?_
    rintro e w1 ⟨ve, rfl, ⟨vn, vf, vb, rfl, ⟨An, cn, rfl, hcn, hrn⟩, ⟨Af, cf, rfl, hcf, hrf⟩, ⟨Ab, cb, rfl, hcb, hrb⟩⟩, hb1⟩
    have HE : Fact (Ent (fun k => k < w.heap.size) w1 (.agg #[.string x.key, .string x.second, .slice An x.names.length cn, .int .i64 x.asked, .int .i64 x.came, .int .i64 x.status, .slice Af (flds x.fields).length cf, .slice Ab x.body.length cb, .int .i64 x.gen]) x) := ⟨⟨_, _, _, rfl, ⟨An, cn, rfl, hcn, hrn⟩, ⟨Af, cf, rfl, hcf, hrf⟩, ⟨Ab, cb, rfl, hcb, hrb⟩⟩⟩
    have B1 := Fact.mk hb1
    clear hrn hrf hrb hb1 HD
    go_wp2_with fail
    go_ret2
    exact ⟨_, rfl, Kd.R_nil _ _ _ _ _, B1.out.alloc B1.out.size _⟩
  · rw [if_neg h0]
    have h0 : err = 0 := Classical.not_not.1 h0
    subst h0
    go_enter Tryd.func23, Tryd.ntmps23
    go_wp2_with fail
    refine HD.out.mono ?_
    rintro e w1 ⟨ve, rfl, ⟨vn, vf, vb, rfl, ⟨An, cn, rfl, hcn, hrn⟩, ⟨Af, cf, rfl, hcf, hrf⟩, ⟨Ab, cb, rfl, hcb, hrb⟩⟩, hb1⟩
    have HE : Fact (Ent (fun k => k < w.heap.size) w1 (.agg #[.string x.key, .string x.second, .slice An x.names.length cn, .int .i64 x.asked, .int .i64 x.came, .int .i64 x.status, .slice Af (flds x.fields).length cf, .slice Ab x.body.length cb, .int .i64 x.gen]) x) := ⟨⟨_, _, _, rfl, ⟨An, cn, rfl, hcn, hrn⟩, ⟨Af, cf, rfl, hcf, hrf⟩, ⟨Ab, cb, rfl, hcb, hrb⟩⟩⟩
    have B1 := Fact.mk hb1
    clear hrn hrf hrb hb1 HD
    have hl := loadE (w := w1.alloc (.cells #[.string x.key, .string x.second, .slice An x.names.length cn, .int .i64 x.asked, .int .i64 x.came, .int .i64 x.status, .slice Af (flds x.fields).length cf, .slice Ab x.body.length cb, .int .i64 x.gen] 27)) (heap_alloc_new w1 _) rfl
    have H2 : Fact (Ent (fun k => k < w.heap.size) (w1.alloc (.cells #[.string x.key, .string x.second, .slice An x.names.length cn, .int .i64 x.asked, .int .i64 x.came, .int .i64 x.status, .slice Af (flds x.fields).length cf, .slice Ab x.body.length cb, .int .i64 x.gen] 27)) (.agg #[.string x.key, .string x.second, .slice An x.names.length cn, .int .i64 x.asked, .int .i64 x.came, .int .i64 x.status, .slice Af (flds x.fields).length cf, .slice Ab x.body.length cb, .int .i64 x.gen]) x ∧ Below w.heap.size w (w1.alloc (.cells #[.string x.key, .string x.second, .slice An x.names.length cn, .int .i64 x.asked, .int .i64 x.came, .int .i64 x.status, .slice Af (flds x.fields).length cf, .slice Ab x.body.length cb, .int .i64 x.gen] 27))) := ⟨HE.out.new ((Below.refl _ _).alloc (Nat.le_refl _) _), B1.out.alloc B1.out.size _⟩
    go_wp2_with fail
    refine (enc_any H2.out.1 HB.out n).mono ?_
    rintro e w2 ⟨vr, rfl, hR, hb2⟩
    have HR := Fact.mk hR
    have B2 := Fact.mk (next_new H2.out.2 hb2)
    have L2 := Fact.mk H2.out.2.size
    clear hR hb2 hl H2 HE B1
    go_wp2_with fail
    go_ret2
    exact ⟨_, rfl, Kd.R_lower HR.out L2.out, B2.out⟩
end Go.Proofs.YtllnleokjcimhaaDoor.En
