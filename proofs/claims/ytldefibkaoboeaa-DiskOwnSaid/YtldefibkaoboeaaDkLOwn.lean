/-
The law DiskOwn: true.
-/
import Derived.Test.YtldefibkaoboeaaDkLBad
namespace Go.Proofs.Ytldefibkaoboeaa.Dk
open Go.RowKit Go.Maps Go.Proofs.YtldefibkaoboeaaW.PrintWords Go.Proofs.YtldefibkaoboeaaW.PrintLast Go.Proofs.YtldefibkaoboeaaW.PrintMore
set_option linter.unusedVariables false
set_option linter.unusedSimpArgs false

theorem DiskOwn_out (w : World) (A : Option Addr) (n c : Nat) (h : 64 < n) : Calls Try.prog 3 #[.slice A n c] w fun e w' => e = .returned (.bool true) ∧ Below w.heap.size w w' := by
  have h2 : (64 : Int) < (n : Int) := by omega
  go_enter Try.func3, Try.ntmps3
  go_wp2_with fail
  refine (anchor_true w).mono ?_
  rintro e w1 ⟨rfl, b1⟩
  have B1 := Fact.mk b1
  clear b1
  go_wp2_with fail
  go_ret
  exact ⟨rfl, B1.out⟩
/-- 'd.Write(i, b)', b a row of one's own apart from the disk. -/
theorem Write_own {w : World} {L : DL} {D : PD} (h : IsDisk w L D) (i : Int) {b : List Int} {A : Option Addr} {c base : Nat} {ok : Nat → Prop} (hb : OwnB w base ok (.slice A b.length c) b) (hok : ∀ k, ok k → ¬ L.S k) {r : Int} {D' : PD} (hr : D.write i b = (r, D')) :
    Calls Try.prog 11 #[.pointer (some ⟨L.p, 0, none⟩), .int .i64 i, .slice A b.length c] w fun e w' => e = .returned (.int .i64 r) ∧ IsDisk w' L D' ∧ Only L.S w w' := by
  have hrd : ∀ W base ok, OwnB W base ok (.slice A b.length c) b → ReadB W A b.length b := fun W base ok ho => by
    obtain ⟨A', c', e, _, h3⟩ := Kd.R_reads ho
    injection e with e1 e2 e3
    rw [e1]; exact h3
  refine (Write_any h i A c b (hrd _ _ _ hb) (fun w' ho => hrd _ _ _ (own_only hb ho hok))).mono ?_
  rintro e w' ⟨rfl, h1, h2⟩
  rw [hr] at h1 ⊢
  exact ⟨rfl, h1, h2⟩
/-- A store into a row of one's own of bytes. -/
theorem own_put {w : World} {base n c : Nat} {ok : Nat → Prop} {l : List Int} {g : Nat} (h : OwnB w base ok (.slice (some ⟨g, 0, none⟩) n c) l) (j : Nat) (x : Int) : OwnB (w.setCell ⟨g, j, none⟩ (.int .u8 x)) base ok (.slice (some ⟨g, 0, none⟩) n c) (l.set j x) :=
  Kd.R_putn h (j : Int) x
theorem own_at {w : World} {base n c : Nat} {ok : Nat → Prop} {l : List Int} {A : Option Addr} (h : OwnB w base ok (.slice A n c) l) (hl : l.length = n) {j : Nat} (hj : j < n) : ∃ g x, A = some ⟨g, 0, none⟩ ∧ ok g ∧ base ≤ g ∧ w.cell? ⟨g, j, none⟩ = some (.int .u8 x) ∧ w.frozen? ⟨g, j, none⟩ = false := by
  have ho := Kd.own_of_R h
  obtain ⟨g, cap, e, h3, h4⟩ := ho.form (by omega)
  injection e with e1 e2 e3
  subst e1
  have hk : ok g := h.1 g (by simp [Value.ownBlock])
  refine ⟨g, l[j], rfl, hk, own_base ho g (by simp [Value.ownBlock]), ?_, ?_⟩
  · rw [← add_plain]
    exact ho.cells (g := g) rfl j (.int .u8 l[j]) (by simp [encs])
  · obtain ⟨cells, hc⟩ := own_typed ho g (by simp [Value.ownBlock])
    exact frozen_of_row _ _ _ _ _ hc
theorem below_put {w w1 : World} (h : Below w.heap.size w w1) {g : Nat} (hg : w.heap.size ≤ g) (j : Nat) (v : Value) : Below w.heap.size w (w1.setCell ⟨g, j, none⟩ v) := h.setCell hg v
theorem own_reads_ {w : World} {base n c : Nat} {ok : Nat → Prop} {A : Option Addr} {l : List Int} (h : OwnB w base ok (.slice A n c) l) : n = l.length ∧ n ≤ c ∧ ReadB w A l.length l := by
  obtain ⟨A', c', e, h2, h3⟩ := Kd.R_reads h
  injection e with e1 e2 e3
  subst e1 e2 e3
  exact ⟨rfl, h2, h3⟩
theorem take_pad {b : List Int} (h : b.length ≤ 64) : (pad b).take b.length = b := by rw [pad_le h, List.take_left]
set_option maxHeartbeats 2000000 in
set_option maxRecDepth 100000 in
theorem DiskOwn_in (w : World) (A : Option Addr) (c : Nat) (l : List Int) (hn : l.length ≤ 64) (hr : ReadB w A l.length l) : Calls Try.prog 3 #[.slice A l.length c] w fun e w' => e = .returned (.bool true) ∧ Below w.heap.size w w' := by
  have HRd := Fact.mk hr
  clear hr
  go_enter Try.func3, Try.ntmps3
  go_wp2_with fail
  refine (anchor_true w).mono ?_
  rintro e w1 ⟨rfl, b1⟩
  have B1 := Fact.mk b1
  clear b1
  go_wp2_with fail
  refine (New_good (n := 1) (by omega) (by omega)).mono ?_
  rintro e w2 ⟨L, rfl, h2, hl, b2⟩
  have H2 := Fact.mk h2
  have HL := Fact.mk (fun k hk => Nat.le_trans B1.out.size (hl k hk))
  have B2 := Fact.mk (next_new B1.out b2)
  clear h2 hl b2 B1
  go_wp2_with ((with_reducible refine gate_builtin (b := .append) (xs := #[.tmp 17, .tmp 18]) rfl ?_); at_builtin; refine Kd.R_append_rows (Kd.int .u8) (w0 := w2) w2.heap.size rfl (.tmp 17) (.tmp 18) 22 5 (.int .u8 0) 1 rfl Try.underlying22 info_u8 rfl (by decide) (by omega) (.slice (some ⟨w2.heap.size, 0, none⟩) 0 0) [] l A l.length c (fun _ => True) (fun _ => False) rfl rfl ?aO ?aR (fun _ _ h => h) (fun _ h => h.elim) ?aF ?aB ?aS ?aL ?_; (case aR => exact Kd.C_alloc (Kd.C_below HRd.out B2.out) _); (case aO => exact R_made0 w2 5); (case aF => exact fun _ _ => trivial); (case aB => exact below_alloc (Below.refl _ _) _); (case aS => simp); (case aL => simp; omega); intro v3 w3 ho hb hg hat; obtain ⟨A3, c3, rfl, _⟩ := Kd.R_reads ho; have R3 := Fact.mk (show OwnB w3 w2.heap.size (fun k => w2.heap.size ≤ k) (.slice A3 l.length c3) l from Kd.R_mono (Kd.R_bound ho) (fun k hk => hk.2.1)); have H3 := Fact.mk (H2.out.below hb); have B3 := Fact.mk (next_new B2.out hb); clear ho hb hg hat)
  have HN : Fact (∀ k, w2.heap.size ≤ k → ¬ L.S k) := ⟨fun k hk => H2.out.fresh hk⟩
  have HG : Fact (w.heap.size ≤ w2.heap.size) := ⟨B2.out.size⟩
  have HW := Fact.mk ((PD.Up.new 1).write (i := 0) (b := l) (by show 0 < 1; omega) hn)
  clear H2 B2
  generalize w2.heap.size = B at *
  clear w2
  refine (Write_own H3.out 0 R3.out HN.out HW.out).mono ?_
  rintro e w4 ⟨rfl, h4, o4⟩
  have H4 := Fact.mk h4
  have B4 := Fact.mk (next_below B3.out o4 HL.out)
  have R4 := Fact.mk (own_only R3.out o4 HN.out)
  clear h4 o4 H3 B3 R3
  have hup := (PD.Up.new 1).put 0 (pad l)
  have HRead : Fact (((PD.new 1).put 0 (pad l)).read 0 = (pad l, 0)) := ⟨by
    have := hup.read (i := 0) (by show 0 < 1; omega) rfl
    rw [PD.now_put_same] at this
    exact this⟩
  clear hup
  generalize (PD.new 1).put 0 (pad l) = D at *
  go_wp2_with fail
  have I0 : Fact (∃ l', l'.length = l.length ∧ OwnB w4 B (fun k => B ≤ k) (.slice A3 l.length c3) l') := ⟨l, rfl, R4.out⟩
  clear R4
  go_loopw [30] (fun v30 wr => ∃ j : Nat, v30 = .int .i64 (j : Int) ∧ j ≤ l.length ∧ Fact (IsDisk wr L D) ∧ Fact (∃ l', l'.length = l.length ∧ OwnB wr B (fun k => B ≤ k) (.slice A3 l.length c3) l') ∧ Fact (Below w.heap.size w wr)) (fun v _ => l.length - (intOf v).toNat)
  case atStart => exact ⟨0, rfl, Nat.zero_le _, H4, I0, B4⟩
  case round =>
    obtain ⟨j, rfl, hj, R1, R2, R3⟩ := hrel
    clear H4 I0 B4
    by_cases hlt : j < l.length
    · have hlt2 : (j : Int) < (l.length : Int) := by omega
      obtain ⟨l', hl', hO⟩ := R2.out
      obtain ⟨g, x, hA, hB, hBg, hc, hf⟩ := own_at hO hl' hlt
      subst hA
      have HO := Fact.mk hO
      have HBg := Fact.mk hB
      have HLn := Fact.mk hl'
      clear hO R2 hB hBg hl'
      go_wp2_with fail
      exact ⟨⟨j + 1, by go_num, by omega, ⟨R1.out.only (Only.setCell (S := fun k => k = g) wr rfl _) (fun k hk e => HN.out g HBg.out (e ▸ hk))⟩, ⟨⟨_, by simpa using HLn.out, own_put HO.out j _⟩⟩, ⟨below_put R3.out (Nat.le_trans HG.out HBg.out) j _⟩⟩, by simp [intOf]; omega⟩
    · have he : j = l.length := by omega
      subst he
      have hlt2 : ¬ ((l.length : Int) < (l.length : Int)) := by omega
      clear R2
      go_wp2_with fail
      refine (Read_to R1.out 0 HRead.out (pad_length _)).mono ?_
      rintro e w5 ⟨g5, c5, rfl, r5, l5, s5, h5, b5⟩
      have H5 := Fact.mk h5
      have B5 := Fact.mk (next_new R3.out b5)
      have N5 : Fact (¬ L.S g5 ∧ w.heap.size ≤ g5) := ⟨R1.out.fresh l5, Nat.le_trans R3.out.size l5⟩
      have I5 : Fact (∃ l', l'.length = 64 ∧ OwnB w5 wr.heap.size (fun k => k = g5) (.slice (some ⟨g5, 0, none⟩) 64 c5) l') := ⟨pad l, pad_length _, r5⟩
      clear r5 l5 s5 h5 b5 R1 R3
      go_wp2_with fail
      obtain ⟨w0, hw0⟩ : ∃ w0 : World, w0 = wr := ⟨_, rfl⟩
      generalize wr.heap.size = B0 at *
      clear hw0
      clear wr
      go_loopw [47] (fun v47 wr => ∃ j : Nat, v47 = .int .i64 (j : Int) ∧ j ≤ 64 ∧ Fact (IsDisk wr L D) ∧ Fact (∃ l', l'.length = 64 ∧ OwnB wr B0 (fun k => k = g5) (.slice (some ⟨g5, 0, none⟩) 64 c5) l') ∧ Fact (Below w.heap.size w wr)) (fun v _ => 64 - (intOf v).toNat)
      case atStart => exact ⟨0, rfl, Nat.zero_le _, H5, I5, B5⟩
      case round =>
        obtain ⟨j, rfl, hj, R1, R2, R3⟩ := hrel
        clear H5 I5 B5
        by_cases hlt : j < 64
        · have hlt2 : (j : Int) < 64 := by omega
          obtain ⟨l', hl', hO⟩ := R2.out
          obtain ⟨g, x, hA, hB, hBg, hc, hf⟩ := own_at hO hl' hlt
          injection hA with hA
          injection hA with hA
          subst hA
          have HO := Fact.mk hO
          have HLn := Fact.mk hl'
          clear hO R2 hB hBg hl'
          go_wp2_with fail
          exact ⟨⟨j + 1, by go_num, by omega, ⟨R1.out.only (Only.setCell (S := fun k => k = g5) wr rfl _) (fun k hk e => N5.out.1 (e ▸ hk))⟩, ⟨⟨_, by simpa using HLn.out, own_put HO.out j _⟩⟩, ⟨below_put R3.out N5.out.2 j _⟩⟩, by simp [intOf]; omega⟩
        · have he : j = 64 := by omega
          subst he
          clear R2
          go_wp2_with fail
          refine (Read_to R1.out 0 HRead.out (pad_length _)).mono ?_
          rintro e w6 ⟨g6, c6, rfl, r6, l6, s6, h6, b6⟩
          have B6 := Fact.mk (next_new R3.out b6)
          have R6 := Fact.mk (own_reads_ r6)
          have hc6 : l.length ≤ c6 := by have := (own_reads_ r6).2.1; omega
          clear r6 l6 s6 h6 b6 R1 R3
          go_wp2_with fail
          refine region_tail 17 (by kernel_rfl) (by kernel_rfl) ?_
          intro W hW
          have BW : Fact (Below w.heap.size w W) := by subst hW; exact ⟨B6.out.drew⟩
          have cv1 : (convert 22 9 (.slice A l.length c)).run Try.prog W = .ok (.string (strOfNums l)) W :=
            Kd.C_string Try.underlying22 Try.underlying5 Try.underlying9 (Kd.C_below HRd.out BW.out)
          have cv2 : (convert 22 9 (.slice (some ⟨g6, 0, none⟩) l.length c6)).run Try.prog W = .ok (.string (strOfNums l)) W := by
            have h1 : ReadB W (some ⟨g6, 0, none⟩) (pad l).length (pad l) := by subst hW; exact Kd.C_below R6.out.2.2 ((Below.refl _ _).drew)
            have h2 := Kd.C_take h1 (m := l.length) (by rw [pad_length]; exact hn)
            rw [take_pad hn] at h2
            exact Kd.C_string Try.underlying22 Try.underlying5 Try.underlying9 h2
          clear hW B6 R6
          simp only [List.take_succ_cons, List.take_zero, List.drop_succ_cons, List.drop_zero]
          iterate 17 still_step
          refine wpStill_nil ?_
          go_wp2_with fail
          go_ret
          exact ⟨rfl, BW.out⟩
/-- The law's function. -/
theorem DiskOwn_true (w : World) (A : Option Addr) (c : Nat) (l : List Int) (hr : ReadB w A l.length l) (_ : l.length ≤ c) (_ : l.length ≤ 9223372036854775807 ∧ ∀ x ∈ l, (Lit.int .u8 x).wf = true) : Calls Try.prog 3 #[.slice A l.length c] w fun e w' => e = .returned (.bool true) ∧ Below w.heap.size w w' := by
  by_cases h : l.length ≤ 64
  · exact DiskOwn_in w A c l h hr
  · exact DiskOwn_out w A l.length c (by omega)
end Go.Proofs.Ytldefibkaoboeaa.Dk
