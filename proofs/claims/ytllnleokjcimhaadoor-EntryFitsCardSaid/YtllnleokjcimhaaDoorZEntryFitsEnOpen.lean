import Derived.Test.YtllnleokjcimhaaDoorZEntryFitsEnAnchor
import Derived.Test.YtllnleokjcimhaaDoorZEntryFitsOpen
import Derived.WalkKit
import Derived.ProofKit
import Derived.WideShapes
import Derived.OpenShut
import Derived.DataShut
/-
An argument's entry: what is read as data of the entry's type is an entry.
-/
namespace Go.Proofs.YtllnleokjcimhaaDoor.En
open Go.RowKit Go.Maps Go.WideShapes Go.Proofs.YtllnleokjcimhaaDoorW.PrintWords Go.Proofs.YtllnleokjcimhaaDoorW.PrintLast Go.Proofs.YtllnleokjcimhaaDoorW.PrintMore Go.Proofs.YtllnleokjcimhaaDoor.P Go.Proofs.YtllnleokjcimhaaDoor.Pure
set_option linter.unusedVariables false
set_option linter.unusedSimpArgs false
/-- What an argument's entry has at least. -/
structure Good (x : PE) : Prop where
  names : x.names.length ≤ 9223372036854775807
  fields : x.fields.length ≤ 9223372036854775807
  bytes : ∀ c ∈ x.body, 0 ≤ c ∧ c < 256
theorem wf_byte {k : Int} (h : (Lit.int .u8 k).wf = true) : 0 ≤ k ∧ k < 256 := by
  have h1 : 0 ≤ k ∧ k ≤ 255 := (Go.Lit.wf_int_iff .u8 k).1 h
  omega
abbrev KE := Kd.pair Kd.string (Kd.pair Kd.string (Kd.pair (Kd.slice 9 Kd.string) (Kd.pair (Kd.int .i64) (Kd.pair (Kd.int .i64) (Kd.pair (Kd.int .i64) (Kd.pair (Kd.slice 53 k53) (Kd.pair (Kd.slice 5 (Kd.int .u8)) (Kd.int .i64))))))))
theorem opens_fld : Opens Tryd.prog 53 k53 (fun x => x.f0.size ≤ 9223372036854775807 ∧ x.f1.size ≤ 9223372036854775807) :=
  Opens.iso (Opens.struct Tryd.underlying53 (Fields.cons rfl rfl (Opens.string Tryd.underlying9) (by kernel_rfl) (Fields.last rfl rfl (Opens.string Tryd.underlying9) (by kernel_rfl))) (by kernel_rfl)) (fun x : S53 => (x.f0, x.f1)) (fun x => (⟨x.1, x.2⟩ : S53)) (fun _ => rfl)
def GoodT (x : ByteArray × ByteArray × List ByteArray × Int × Int × Int × List S53 × List Int × Int) : Prop :=
  x.1.size ≤ 9223372036854775807 ∧ x.2.1.size ≤ 9223372036854775807 ∧ (x.2.2.1.length ≤ 9223372036854775807 ∧ ∀ y ∈ x.2.2.1, y.size ≤ 9223372036854775807) ∧ (Lit.int .i64 x.2.2.2.1).wf = true ∧ (Lit.int .i64 x.2.2.2.2.1).wf = true ∧ (Lit.int .i64 x.2.2.2.2.2.1).wf = true ∧ (x.2.2.2.2.2.2.1.length ≤ 9223372036854775807 ∧ ∀ y ∈ x.2.2.2.2.2.2.1, y.f0.size ≤ 9223372036854775807 ∧ y.f1.size ≤ 9223372036854775807) ∧ (x.2.2.2.2.2.2.2.1.length ≤ 9223372036854775807 ∧ ∀ y ∈ x.2.2.2.2.2.2.2.1, (Lit.int .u8 y).wf = true) ∧ (Lit.int .i64 x.2.2.2.2.2.2.2.2).wf = true
theorem opens_ent : Opens Tryd.prog 27 KE GoodT :=
  Opens.struct Tryd.underlying27
    (Fields.cons rfl rfl (Opens.string Tryd.underlying9) (by kernel_rfl)
    (Fields.cons rfl rfl (Opens.string Tryd.underlying9) (by kernel_rfl)
    (Fields.cons rfl rfl (Opens.slice Tryd.underlying22 (Opens.string Tryd.underlying9) (by kernel_rfl)) (by kernel_rfl)
    (Fields.cons rfl rfl (Opens.int Tryd.underlying3) (by kernel_rfl)
    (Fields.cons rfl rfl (Opens.int Tryd.underlying3) (by kernel_rfl)
    (Fields.cons rfl rfl (Opens.int Tryd.underlying3) (by kernel_rfl)
    (Fields.cons rfl rfl (Opens.slice Tryd.underlying24 opens_fld (by kernel_rfl)) (by kernel_rfl)
    (Fields.cons rfl rfl (Opens.slice Tryd.underlying25 (Opens.int Tryd.underlying5) (by kernel_rfl)) (by kernel_rfl)
    (Fields.last rfl rfl (Opens.int Tryd.underlying3) (by kernel_rfl)))))))))) (by kernel_rfl)
theorem flds_back (xs : List S53) : flds (xs.map fun x => (x.f0, x.f1)) = xs := by
  unfold flds; rw [List.map_map]; exact (List.map_congr_left (fun x _ => rfl)).trans (List.map_id xs)
set_option maxRecDepth 100000 in
theorem open_ent {H : Type} {enc : TypeId × Value → H} {W : World} {base : Nat} {v : Value} {spare : Nat → Bool} {held : Bool} {d : DataW H} {ps : List MemPlace}
    (hok : Value.okWide Tryd.prog W .any base 27 v) (h : DataW.Trod enc Tryd.prog W 0 spare held 27 v d ps) : ∃ x : PE, Ent (fun _ => False) W v x ∧ Good x := by
  obtain ⟨cs, rfl, hsz⟩ := okWide_struct Tryd.underlying27 hok
  obtain ⟨fuel, hf⟩ := h
  obtain ⟨⟨key, second, names, asked, came, status, fs, body, gen⟩, hK, g⟩ := opens_ent enc W _ _ _ _ _ hf
  obtain ⟨c0, r0, e0, k0, c1, r1, e1, k1, c2, r2, e2, k2, c3, r3, e3, k3, c4, r4, e4, k4, c5, r5, e5, k5, c6, r6, e6, k6, c7, c8, e7, k7, k8⟩ := hK
  obtain ⟨A2, n2, rfl, l2, q2⟩ := k2
  obtain ⟨A6, n6, rfl, l6, q6⟩ := k6
  obtain ⟨A7, n7, rfl, l7, q7⟩ := k7
  have k0 : c0 = [.string key] := k0
  have k1 : c1 = [.string second] := k1
  have k3 : c3 = [.int .i64 asked] := k3
  have k4 : c4 = [.int .i64 came] := k4
  have k5 : c5 = [.int .i64 status] := k5
  have k8 : c8 = [.int .i64 gen] := k8
  dsimp only at l2 l6 l7 q2 q6 q7 g e7
  subst k0 k1 k3 k4 k5 k8 e7 e6 e5 e4 e3 e2 e1
  have ev : cs = #[.string key, .string second, .slice A2 names.length n2, .int .i64 asked, .int .i64 came, .int .i64 status, .slice A6 fs.length n6, .slice A7 body.length n7, .int .i64 gen] := by
    apply Array.toList_inj.1
    exact e0
  subst ev
  refine ⟨⟨key, second, names, asked, came, status, fs.map fun x => (x.f0, x.f1), body, gen⟩, ⟨.slice A2 names.length n2, .slice A6 fs.length n6, .slice A7 body.length n7, rfl, RowS.of_C q2 l2, ?_, RowS.of_C q7 l7⟩, ?_⟩
  · dsimp only
    rw [flds_back]
    exact RowS.of_C q6 l6
  · obtain ⟨-, -, g2, -, -, -, g6, g7, -⟩ := g
    refine ⟨g2.1, ?_, fun c hc => wf_byte (g7.2 c hc)⟩
    dsimp only
    rw [List.length_map]
    exact g6.1
end Go.Proofs.YtllnleokjcimhaaDoor.En
