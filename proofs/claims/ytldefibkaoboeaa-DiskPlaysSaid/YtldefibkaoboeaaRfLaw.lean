/-
What the law on plays asks of a disk and of the reference's: the same pending sectors; the same bytes behind a crash.
-/
import Derived.Test.YtldefibkaoboeaaRfW4
import Derived.Test.YtldefibkaoboeaaDkBad
namespace Go.Proofs.Ytldefibkaoboeaa.Dk
open Go.RowKit Go.Maps Go.Proofs.YtldefibkaoboeaaW.PrintWords Go.Proofs.YtldefibkaoboeaaW.PrintLast Go.Proofs.YtldefibkaoboeaaW.PrintMore
set_option linter.unusedVariables false
set_option linter.unusedSimpArgs false

section
variable {w : World} {L : DL} {R : RL} {D : PD}
theorem keys_le (D : PD) : D.keys.length ≤ D.n := by
  have := List.length_filter_le (fun i => (D.pe i).isSome) (List.range D.n)
  rw [List.length_range] at this; exact this
theorem ikeys_length (D : PD) : D.ikeys.length = D.keys.length := by simp [PD.ikeys]
set_option maxHeartbeats 1000000 in
set_option maxRecDepth 100000 in
theorem pending_same (h : IsDisk w L D) (hr : IsRef w R D) :
    Calls Try.prog 26 #[.pointer (some ⟨L.p, 0, none⟩), .pointer (some ⟨R.p, 0, none⟩)] w fun e w' => e = .returned (.bool true) ∧ Below w.heap.size w w' := by
  have HP := Fact.mk (Pending_any h)
  have HR := Fact.mk hr
  have hn4 := h.good.most
  have hkl := keys_le D
  clear h hr
  go_enter Try.func26, Try.ntmps26
  go_wp2_with fail
  refine HP.out.mono ?_
  rintro e w1 ⟨v, rfl, ho, hb⟩
  have HR1 := Fact.mk (HR.out.below hb)
  have HB := Fact.mk hb
  obtain ⟨A5, c5, rfl⟩ := Kd.R_slice ho
  rw [ikeys_length] at ho ⊢
  have HO := Fact.mk ho
  have c1 := HR1.out.c1
  clear HP HR ho hb
  go_wp2_with fail
  go_loopw [6, 16] (fun v6 v16 wr => ∃ j : Nat, v16 = .int .i64 (j : Int) ∧ v6 = .int .i64 (D.rank j : Int) ∧ j ≤ D.n ∧ wr = w1) (fun _ v _ => D.n - (intOf v).toNat)
  case atStart => exact ⟨0, rfl, rfl, Nat.zero_le _, rfl⟩
  case round =>
    obtain ⟨j, rfl, rfl, hj, rfl⟩ := hrel
    by_cases hlt : j < D.n
    · have hrk := D.rank_le j
      cases hp : D.pe j with
      | none =>
        have HRK := Fact.mk (D.rank_no hp)
        have cp := HR1.out.pe_none hlt hp
        clear hp
        go_wp2_with fail
        exact ⟨⟨j + 1, by go_num, by rw [HRK.out], by omega, trivial⟩, by simp [intOf]; omega⟩
      | some b =>
        have HRK := Fact.mk (D.rank_yes hp)
        obtain ⟨g, cp, hrw⟩ := HR1.out.pe_some hlt hp
        have hs : (D.pe j).isSome = true := by rw [hp]; rfl
        have hka := D.keys_at hlt hs
        have hkr := D.rank_lt hlt hs
        have ho := Kd.own_of_R HO.out
        obtain ⟨gk, ck, ek, -, -⟩ := ho.form (by rw [ikeys_length]; omega)
        injection ek with ek1 ek2 ek3
        subst ek1
        have ck : wr.cell? ⟨gk, D.rank j, none⟩ = some (.int .i64 (j : Int)) := by
          rw [← add_plain]
          exact ho.cells (g := gk) rfl _ (.int .i64 (j : Int)) (by simp only [encs, PD.ikeys, List.getElem?_map]; rw [hka]; rfl)
        clear hp hs hka hrw ho ek2 ek3 HO
        generalize D.rank j = rk at *
        generalize D.keys.length = kl at *
        have hkr2 : ¬ ((kl : Int) ≤ (rk : Int)) := by omega
        go_wp2_with fail
        exact ⟨⟨j + 1, by go_num, by rw [HRK.out]; go_num, by omega, trivial⟩, by simp [intOf]; omega⟩
    · have he : j = D.n := by omega
      subst he
      rw [PD.rank_n]
      have hlt2 : ¬ ((D.n : Int) < (D.n : Int)) := by omega
      clear HO
      generalize D.keys.length = kl at *
      go_wp2_with fail
      go_ret
      exact ⟨rfl, HB.out⟩
/-- A disk that differs at most in its bad sectors. -/
def PD.badly (D : PD) (f : Nat → Bool) : PD := { D with bad := f }
theorem badly_set (C : PD) (f : Nat → Bool) {j : Nat} (hj : j < C.n) (on : Bool) : (C.badly f).setBad (j : Int) on = (0, C.badly fun k => if k = j then on else f k) := by
  unfold PD.setBad
  have ht : (C.badly f).there (j : Int) = true := by rw [PD.there_iff]; exact ⟨by omega, by show (j : Int) < (C.n : Int); omega⟩
  rw [if_pos ht, Int.toNat_natCast]; rfl
theorem badly_read (C : PD) (f : Nat → Bool) {j : Nat} (hj : j < C.n) (hd : C.down = false) (hp : C.pe j = none) (hf : f j = false) : (C.badly f).read (j : Int) = (C.st j, 0) := by
  unfold PD.read
  have ht : (C.badly f).there (j : Int) = true := by rw [PD.there_iff]; exact ⟨by omega, by show (j : Int) < (C.n : Int); omega⟩
  have h1 : (C.badly f).down = false := hd
  have h2 : (C.badly f).bad j = false := hf
  have h3 : (C.badly f).now j = C.st j := by show (C.pe j).getD (C.st j) = _; rw [hp]; rfl
  rw [if_neg (by simp [h1]), if_neg (by rw [ht]; simp), Int.toNat_natCast, if_neg (by simp [h2]), h3]
theorem conv_read {W : World} {A : Option Addr} {n c : Nat} {l : List Int} (h : ReadB W A n l) : (convert 22 9 (.slice A n c)).run Try.prog W = .ok (.string (strOfNums l)) W := Kd.C_string Try.underlying22 Try.underlying5 Try.underlying9 h
theorem crash_pe (D : PD) (i : Nat) : (D.crash []).pe i = none := rfl
theorem readNil (W : World) : ReadBool W none 0 [] := ⟨rfl, by decide, fun h => by simp at h⟩
set_option maxHeartbeats 1000000 in
set_option maxRecDepth 100000 in
theorem ends_same (h : IsDisk w L D) (hr : IsRef w R D) {w0 : World} (hB0 : Below w0.heap.size w0 w) (hL : ∀ k, L.S k → w0.heap.size ≤ k) (hR : ∀ k, R.S k → w0.heap.size ≤ k) :
    Calls Try.prog 27 #[.pointer (some ⟨L.p, 0, none⟩), .pointer (some ⟨R.p, 0, none⟩)] w fun e w' => e = .returned (.bool true) ∧ Below w0.heap.size w0 w' := by
  have HC := Fact.mk (Crash_any h none 0 [] (fun W _ => readNil W))
  have HD := Fact.mk h
  have HR := Fact.mk hr
  have HB := Fact.mk hB0
  have HL := Fact.mk hL
  have HLR := Fact.mk hR
  have hn4 := h.good.most
  have hkl := keys_le D
  clear h hr hB0 hL hR
  go_enter Try.func27, Try.ntmps27
  go_wp2_with fail
  refine HC.out.mono ?_
  rintro e w1 ⟨rfl, h1, o1⟩
  have H1 := Fact.mk h1
  have R1 := Fact.mk (HR.out.disk HD.out o1)
  have B1 := Fact.mk (HB.out.trans (o1.below HB.out.size HL.out))
  clear h1 o1 HC HD HR HB
  go_wp2_with fail
  refine (rCrash_any R1.out none 0 [] (fun W _ => readNil W)).mono ?_
  rintro e w2 ⟨rfl, r2, o2⟩
  have R2 := Fact.mk r2
  have H2 := Fact.mk (H1.out.refd R1.out o2)
  have B2 := Fact.mk (B1.out.trans (o2.below B1.out.size HLR.out))
  clear r2 o2 H1 R1 B1
  have hnc : (D.crash []).n = D.n := rfl
  have c0 := R2.out.c0
  rw [hnc] at c0
  have hdn : (D.crash []).down = false := rfl
  have hpe : ∀ i, (D.crash []).pe i = none := fun i => rfl
  have HDP := Fact.mk (And.intro hdn hpe)
  clear hdn hpe
  rw [← hnc] at c0 hn4
  clear hkl hnc
  generalize D.crash [] = C at *
  go_wp2_with fail
  go_loopw [18] (fun v18 wr => ∃ j : Nat, v18 = .int .i64 (j : Int) ∧ j ≤ C.n ∧ Fact (∃ f, IsDisk wr L (C.badly f)) ∧ Fact (IsRef wr R C) ∧ Fact (Below w0.heap.size w0 wr)) (fun v _ => C.n - (intOf v).toNat)
  case atStart => exact ⟨0, rfl, Nat.zero_le _, ⟨C.bad, H2.out⟩, R2, B2⟩
  case round =>
    obtain ⟨j, rfl, hj, S1, S2, S3⟩ := hrel
    obtain ⟨f, hS⟩ := S1.out
    have HS := Fact.mk hS
    clear S1 hS H2 R2 B2 c0
    by_cases hlt : j < C.n
    · have hlt2 : (j : Int) < (C.n : Int) := by omega
      obtain ⟨g, cs, hrw⟩ := S2.out.st hlt
      have HRW := Fact.mk hrw
      clear hrw
      go_wp2_with fail
      refine (Bad_to HS.out (j : Int) false (badly_set C f hlt false)).mono ?_
      rintro e w3 ⟨rfl, h3, o3⟩
      have H3 := Fact.mk h3
      have R3 := Fact.mk (S2.out.disk HS.out o3)
      have W3 := Fact.mk (HRW.out.kept (HS.out.kept o3))
      have B3 := Fact.mk (S3.out.trans (o3.below S3.out.size HL.out))
      clear h3 o3 S2 S3 HS HRW cs
      go_wp2_with fail
      refine (Read_to H3.out (j : Int) (badly_read C _ hlt HDP.out.1 (HDP.out.2 j) (by rw [if_pos rfl])) W3.out.len).mono ?_
      rintro e w4 ⟨g4, c4, rfl, ho4, -, -, h4, b4⟩
      have H4 := Fact.mk h4
      have R4 := Fact.mk (R3.out.below b4)
      have B4 := Fact.mk (next_new B3.out b4)
      have W4 := W3.out.kept (Kept8.of_below b4)
      have hv1 := conv_read (c := c4) (own_reads_ ho4).2.2
      rw [W3.out.len] at hv1
      have hv2 := conv_read (c := 64) W4.reads
      have hh : C.st j = C.st j := rfl
      generalize strOfNums (C.st j) = str at *
      clear h4 b4 ho4 H3 R3 B3 W3 W4 hh
      go_wp2_with fail
      exact ⟨⟨j + 1, by go_num, by omega, ⟨_, H4.out⟩, R4, B4⟩, by simp [intOf]; omega⟩
    · have he : j = C.n := by omega
      subst he
      have hlt2 : ¬ ((C.n : Int) < (C.n : Int)) := by omega
      go_wp2_with fail
      go_ret
      exact ⟨rfl, S3.out⟩
end
end Go.Proofs.Ytldefibkaoboeaa.Dk
