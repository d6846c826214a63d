/-
The law DiskPlays: true.
-/
import Derived.Test.YtldefibkaoboeaaRfLaw
import Derived.Test.YtldefibkaoboeaaDkAnchor
import Derived.DataShut
namespace Go.Proofs.Ytldefibkaoboeaa.Dk
open Go.RowKit Go.Maps Go.Proofs.YtldefibkaoboeaaW.PrintWords Go.Proofs.YtldefibkaoboeaaW.PrintLast Go.Proofs.YtldefibkaoboeaaW.PrintMore
set_option linter.unusedVariables false
set_option linter.unusedSimpArgs false

/-- A step: its kind, its number, its bytes, on or off, what is kept. -/
abbrev POp := Int × Int × List Int × Bool × List Bool
def opK : Kd POp := Kd.pair (Kd.int .i64) (Kd.pair (Kd.int .i64) (Kd.pair (Kd.slice 5 (Kd.int .u8)) (Kd.pair Kd.bool (Kd.slice 4 Kd.bool))))
theorem add_at (ad : Addr) (i k : Nat) (hk : 0 < k) : ad.add (i + k) = ⟨(ad.add i).block, (ad.add i).off + k, none⟩ := by
  unfold Addr.add
  rw [if_neg (by omega)]
  split
  · rename_i h; subst h; simp
  · simp [Nat.add_assoc]
theorem op_cells {w : World} {A : Option Addr} {l : List POp} (h : Kd.C opK w A l.length l) {j : Nat} (hj : j < l.length) : ∃ ad As cs Ab cb, A = some ad ∧
    w.cell? (ad.add (j * 5)) = some (.int .i64 l[j].1) ∧ w.cell? ⟨(ad.add (j * 5)).block, (ad.add (j * 5)).off + 1, none⟩ = some (.int .i64 l[j].2.1) ∧
    w.cell? ⟨(ad.add (j * 5)).block, (ad.add (j * 5)).off + 2, none⟩ = some (.slice As l[j].2.2.1.length cs) ∧ w.cell? ⟨(ad.add (j * 5)).block, (ad.add (j * 5)).off + 3, none⟩ = some (.bool l[j].2.2.2.1) ∧
    w.cell? ⟨(ad.add (j * 5)).block, (ad.add (j * 5)).off + 4, none⟩ = some (.slice Ab l[j].2.2.2.2.length cb) ∧ ReadB w As l[j].2.2.1.length l[j].2.2.1 ∧ ReadBool w Ab l[j].2.2.2.2.length l[j].2.2.2.2 := by
  obtain ⟨ad, eA, hc⟩ := h.2.2 (by omega)
  obtain ⟨c, _, ⟨c0, d0, rfl, k0, c1, d1, rfl, k1, c2, d2, rfl, ⟨As, cs, rfl, hle, hr⟩, c3, d3, rfl, k3, Ab, cb, rfl, hle2, hr2⟩, hcc⟩ := hc j l[j] (List.getElem?_eq_getElem hj)
  have k0 : c0 = [.int .i64 l[j].1] := k0
  have k1 : c1 = [.int .i64 l[j].2.1] := k1
  have k3 : c3 = [.bool l[j].2.2.2.1] := k3
  subst k0 k1 k3
  refine ⟨ad, As, cs, Ab, cb, eA, hcc 0 _ rfl, ?_, ?_, ?_, ?_, hr, hr2⟩
  · rw [← add_at _ _ 1 (by omega)]; exact hcc 1 _ rfl
  · rw [← add_at _ _ 2 (by omega)]; exact hcc 2 _ rfl
  · rw [← add_at _ _ 3 (by omega)]; exact hcc 3 _ rfl
  · rw [← add_at _ _ 4 (by omega)]; exact hcc 4 _ rfl
theorem write_n (D : PD) (i : Int) (b : List Int) : (D.write i b).2.n = D.n := by unfold PD.write; split <;> (try split) <;> (try split) <;> rfl
theorem flush_n (D : PD) : D.flush.2.n = D.n := by unfold PD.flush; split <;> (try split) <;> rfl
theorem setBad_in (D : PD) {i : Nat} (hi : i < D.n) (on : Bool) : D.setBad (i : Int) on = (0, { D with bad := fun j => if j = i then on else D.bad j }) := by
  unfold PD.setBad
  have ht : D.there (i : Int) = true := by rw [PD.there_iff]; omega
  rw [if_pos ht, Int.toNat_natCast]
theorem setBad_out (D : PD) {i : Int} (hi : ¬ (0 ≤ i ∧ i < D.n)) (on : Bool) : D.setBad i on = (11, D) := by
  unfold PD.setBad
  rw [if_neg (fun h => hi ((PD.there_iff D i).1 h))]
/-- A step as the loop's own copy. -/
structure OpAt (w : World) (b : Nat) (x : POp) (As : Option Addr) (cs : Nat) (Ab : Option Addr) (cb : Nat) : Prop where
  at_ : w.heap[b]? = some (.cells #[.int .i64 x.1, .int .i64 x.2.1, .slice As x.2.2.1.length cs, .bool x.2.2.2.1, .slice Ab x.2.2.2.2.length cb] 49 (0, 0))
section
variable {w w' : World} {b : Nat} {x : POp} {As : Option Addr} {cs : Nat} {Ab : Option Addr} {cb : Nat}
theorem OpAt.c0 (h : OpAt w b x As cs Ab cb) : w.cell? ⟨b, 0, none⟩ = some (.int .i64 x.1) := by rw [cell_of_row _ _ _ _ _ _ h.at_]; rfl
theorem OpAt.c1 (h : OpAt w b x As cs Ab cb) : w.cell? ⟨b, 1, none⟩ = some (.int .i64 x.2.1) := by rw [cell_of_row _ _ _ _ _ _ h.at_]; rfl
theorem OpAt.c2 (h : OpAt w b x As cs Ab cb) : w.cell? ⟨b, 2, none⟩ = some (.slice As x.2.2.1.length cs) := by rw [cell_of_row _ _ _ _ _ _ h.at_]; rfl
theorem OpAt.c3 (h : OpAt w b x As cs Ab cb) : w.cell? ⟨b, 3, none⟩ = some (.bool x.2.2.2.1) := by rw [cell_of_row _ _ _ _ _ _ h.at_]; rfl
theorem OpAt.c4 (h : OpAt w b x As cs Ab cb) : w.cell? ⟨b, 4, none⟩ = some (.slice Ab x.2.2.2.2.length cb) := by rw [cell_of_row _ _ _ _ _ _ h.at_]; rfl
theorem OpAt.lt (h : OpAt w b x As cs Ab cb) : b < w.heap.size := (Array.getElem?_eq_some_iff.1 h.at_).1
theorem OpAt.below (h : OpAt w b x As cs Ab cb) (hb : Below w.heap.size w w') : OpAt w' b x As cs Ab cb := ⟨(hb.block b h.lt).trans h.at_⟩
theorem OpAt.only {S : Nat → Prop} (h : OpAt w b x As cs Ab cb) (ho : Only S w w') (hs : ¬ S b) : OpAt w' b x As cs Ab cb := ⟨(ho.block b h.lt hs).trans h.at_⟩
theorem OpAt.drew (h : OpAt w b x As cs Ab cb) : OpAt w.drew b x As cs Ab cb := ⟨h.at_⟩
end
set_option maxHeartbeats 4000000 in
set_option maxRecDepth 100000 in
theorem plays_in (w : World) (n : Nat) (h1 : 1 ≤ n) (h2 : n ≤ 64) (A : Option Addr) (c : Nat) (l : List POp) (hr : Kd.C opK w A l.length l) (hl : l.length ≤ 80) (hy : ∀ x ∈ l, x.2.1 < 9223372036854775808) :
    Calls Try.prog 8 #[.int .i64 (n : Int), .slice A l.length c] w fun e w' => e = .returned (.bool true) ∧ Below w.heap.size w w' := by
  have HRd := Fact.mk hr
  have HY := Fact.mk hy
  clear hr hy
  go_enter Try.func8, Try.ntmps8
  go_wp2_with fail
  refine (anchor_true w).mono ?_
  rintro e w1 ⟨rfl, b1⟩
  have B1 := Fact.mk b1
  clear b1
  go_wp2_with fail
  refine (New_good (n := n) (by omega) (by omega)).mono ?_
  rintro e w2 ⟨L, rfl, g2, hl2, b2⟩
  have H2 := Fact.mk g2
  have HL := Fact.mk (fun k hk => Nat.le_trans B1.out.size (hl2 k hk))
  have B2 := Fact.mk (next_new B1.out b2)
  clear g2 hl2 b2 B1
  go_wp2_with fail
  refine (Len_any H2.out).mono ?_
  rintro e w3 ⟨rfl, rfl⟩
  have hnn : (PD.new n).n = n := rfl
  rw [hnn]
  clear hnn
  go_wp2_with fail
  refine (rNew_good (n := n) (by omega) (by omega)).mono ?_
  rintro e w3 ⟨R, rfl, g3, hl3, b3⟩
  have H3 := Fact.mk (H2.out.below b3)
  have R3 := Fact.mk g3
  have HLR := Fact.mk (fun k hk => Nat.le_trans B2.out.size (hl3 k hk))
  have B3 := Fact.mk (next_new B2.out b3)
  clear g3 hl3 b3 B2 H2
  go_wp2_with fail
  go_loopw [49] (fun v49 wr => ∃ j : Nat, v49 = .int .i64 (j : Int) ∧ j ≤ l.length ∧ Fact (∃ D, D.n = n ∧ IsDisk wr L D ∧ IsRef wr R D) ∧ Fact (Below w.heap.size w wr)) (fun v _ => l.length - (intOf v).toNat)
  case atStart => exact ⟨0, rfl, Nat.zero_le _, ⟨_, rfl, H3.out, R3.out⟩, B3⟩
  case round =>
    obtain ⟨j, rfl, hj, S1, S2⟩ := hrel
    clear H3 R3 B3
    obtain ⟨D, hDn, hD, hR⟩ := S1.out
    have HD := Fact.mk hD
    have HR := Fact.mk hR
    have HN := Fact.mk hDn
    clear S1 hD hR hDn
    by_cases hlt : j < l.length
    · have hlt2 : (j : Int) < (l.length : Int) := by omega
      obtain ⟨ad, As, cs, Ab, cb, rfl, q0, q1, q2, q3, q4, hrb, hrk⟩ := op_cells HRd.out hlt
      replace q0 := pw_cell_below S2.out q0
      replace q1 := pw_cell_below S2.out q1
      replace q2 := pw_cell_below S2.out q2
      replace q3 := pw_cell_below S2.out q3
      replace q4 := pw_cell_below S2.out q4
      have HRB := Fact.mk hrb
      have HRK := Fact.mk hrk
      have HX := Fact.mk (HY.out l[j] (List.getElem_mem hlt))
      clear hrb hrk
      generalize l[j] = x at *
      obtain ⟨kd, nn, dat, on, keep⟩ := x
      dsimp only at q0 q1 q2 q3 q4 HRB HRK HX
      by_cases hbig : 200 < dat.length ∨ 100 < keep.length
      · rcases hbig with hbig | hbig
        · have hb1 : (200 : Int) < (dat.length : Int) := by omega
          generalize dat.length = dl at *
          generalize keep.length = kl at *
          clear hbig
          go_wp2_with fail
          go_ret
          exact ⟨rfl, S2.out.alloc S2.out.size _⟩
        · have hb1 : (100 : Int) < (keep.length : Int) := by omega
          generalize dat.length = dl at *
          generalize keep.length = kl at *
          clear hbig
          go_wp2_with fail
          all_goals
            go_ret
            exact ⟨rfl, S2.out.alloc S2.out.size _⟩
      · have hb1 : (dat.length : Int) ≤ 200 := by omega
        have hb2 : (keep.length : Int) ≤ 100 := by omega
        clear hbig
        have OA : Fact (OpAt (wr.alloc (.cells #[.int .i64 kd, .int .i64 nn, .slice As dat.length cs, .bool on, .slice Ab keep.length cb] 49)) wr.heap.size (kd, nn, dat, on, keep) As cs Ab cb) := ⟨⟨heap_alloc_new wr _⟩⟩
        have OL : Fact (¬ L.S wr.heap.size ∧ ¬ R.S wr.heap.size) := ⟨fun hk => by have := HD.out.lt _ hk; omega, fun hk => by have := HR.out.lt _ hk; omega⟩
        have AD : Fact (IsDisk (wr.alloc (.cells #[.int .i64 kd, .int .i64 nn, .slice As dat.length cs, .bool on, .slice Ab keep.length cb] 49)) L D) := ⟨HD.out.alloc _⟩
        have AR : Fact (IsRef (wr.alloc (.cells #[.int .i64 kd, .int .i64 nn, .slice As dat.length cs, .bool on, .slice Ab keep.length cb] 49)) R D) := ⟨HR.out.alloc _⟩
        have AB : Fact (Below w.heap.size w (wr.alloc (.cells #[.int .i64 kd, .int .i64 nn, .slice As dat.length cs, .bool on, .slice Ab keep.length cb] 49))) := ⟨S2.out.alloc S2.out.size _⟩
        have AX : Fact (∀ W, Below w.heap.size w W → ReadB W As dat.length dat ∧ ReadBool W Ab keep.length keep) := ⟨fun W hb => ⟨Kd.C_below HRB.out hb, Kd.C_below HRK.out hb⟩⟩
        have hk : kd = 1 ∨ kd = 2 ∨ kd = 3 ∨ kd = 4 ∨ kd = 5 ∨ kd = 6 ∨ (kd ≠ 1 ∧ kd ≠ 2 ∧ kd ≠ 3 ∧ kd ≠ 4 ∧ kd ≠ 5 ∧ kd ≠ 6) := by omega
        clear HRB HRK
        generalize hwo : wr.alloc (.cells #[.int .i64 kd, .int .i64 nn, .slice As dat.length cs, .bool on, .slice Ab keep.length cb] 49) = wo at *
        have o0 := OA.out.c0
        have o1 := OA.out.c1
        have o2 := OA.out.c2
        have o3 := OA.out.c3
        have o4 := OA.out.c4
        dsimp only at o0 o1 o2 o3 o4
        rcases hk with rfl | rfl | rfl | rfl | rfl | rfl | ⟨hk1, hk2, hk3, hk4, hk5, hk6⟩
        · go_wp2_with fail
          refine (Read_any AD.out nn).mono ?_
          rintro e w4 ⟨v, rfl, ho, hb4⟩
          obtain ⟨A4, c4, rfl, _, hv⟩ := Kd.R_reads ho
          have HV := Fact.mk hv
          have D4 := Fact.mk (AD.out.below hb4)
          have R4 := Fact.mk (AR.out.below hb4)
          have B4 := Fact.mk (next_new AB.out hb4)
          have O4 := OA.out.below hb4
          have p1 := O4.c1
          dsimp only at p1
          clear ho hb4 hv O4 o0 o1 o2 o3 o4 OA AD AR AB
          go_wp2_with fail
          refine (rRead_any R4.out nn).mono ?_
          rintro e w5 ⟨A5, c5, rfl, hv5, rfl⟩
          have hv1 := conv_read (c := c4) HV.out
          have hv2 := conv_read (c := c5) hv5
          clear hv5 HV p1
          generalize (D.read nn).2 = er at *
          generalize strOfNums (D.read nn).1 = str at *
          generalize (D.read nn).1.length = ln at *
          go_wp2_with fail
          clear hv1 hv2
          
          have c5 := R4.out.c5
          skip
          refine start_ (n := 13) (S := fun w' => w'.cell? ⟨R.p, 5, none⟩ = some (.bool D.down)) (ds := []) #[false, false, false, false, false, false, false, false, false, false, false, false, false] (by kernel_rfl) rfl rfl c5 (fun hHeld => ?_)
          have Hd := Fact.mk D4.out.drew
          have Rd := Fact.mk R4.out.drew
          have Bd : Fact (Below w.heap.size w w4.drew) := ⟨B4.out.drew⟩
          clear c5 D4 R4 B4
          generalize w4.drew = wd at *
          refine pure_ (i := 0) (N := (some 172)) (v := ?_) (a' := ?_) #[true, false, false, false, false, false, false, false, false, false, false, false, false] rfl rfl (by kernel_rfl) (fun _ _ _ h => h) (Or.inl ⟨by rfl, ?_⟩) ?_ ?_
          rotate_left
          · intro w'
            go_simp
            with_reducible rfl
          rotate_left
          · simp only [Act.put, List.setIfInBounds_toArray, List.set_cons_zero, List.set_cons_succ, i64_w, i32_w]
            rfl
          refine pure_ (i := 1) (N := (some 173)) (v := ?_) (a' := ?_) #[true, true, false, false, false, false, false, false, false, false, false, false, false] rfl rfl (by kernel_rfl) (fun _ _ _ h => h) (Or.inl ⟨by rfl, ?_⟩) ?_ ?_
          rotate_left
          · intro w'
            go_simp
            with_reducible rfl
          rotate_left
          · simp only [Act.put, List.setIfInBounds_toArray, List.set_cons_zero, List.set_cons_succ, i64_w, i32_w]
            rfl
          refine one_ (i := 2) (N := (some 174)) #[true, true, true, false, false, false, false, false, false, false, false, false, false] rfl rfl (by kernel_rfl) (by decide) (fun K hK => ?_)
          refine goes_ Try.func26 (by kernel_rfl) rfl #[.pointer (some ⟨L.p, 0, none⟩), .pointer (some ⟨R.p, 0, none⟩)] (by rfl) rfl rfl (by (try simp only [List.map_toArray, List.map_cons, List.map_nil]); first | done | rfl) ?_
          refine (pending_same Hd.out Rd.out).mono ?_
          rintro e w6 ⟨rfl, b6⟩
          have H6 := Fact.mk (Hd.out.below b6)
          have R6 := Fact.mk (Rd.out.below b6)
          have B6 := Fact.mk (next_new Bd.out b6)
          replace hHeld := R6.out.c5
          clear b6 Hd Rd Bd
          clear wd
          refine ⟨_, rfl, ?_⟩
          refine hK.out _ _ hHeld (fun hxx => ?_)
          clear hK K hxx
          refine norm_ (a' := ?_) ?_ ?_
          rotate_left
          · show Act.put _ (some 174) _ = _
            simp only [Act.put, List.setIfInBounds_toArray, List.set_cons_zero, List.set_cons_succ, i64_w, i32_w]
            rfl
          refine pure_ (i := 3) (N := (some 175)) (v := ?_) (a' := ?_) #[true, true, true, true, false, false, false, false, false, false, false, false, false] rfl rfl (by kernel_rfl) (fun _ _ _ h => h) (Or.inl ⟨by rfl, ?_⟩) ?_ ?_
          rotate_left
          · intro w'
            go_simp
            with_reducible rfl
          rotate_left
          · simp only [Act.put, List.setIfInBounds_toArray, List.set_cons_zero, List.set_cons_succ, i64_w, i32_w]
            rfl
          refine pure_ (i := 4) (N := (some 176)) (v := ?_) (a' := ?_) #[true, true, true, true, true, false, false, false, false, false, false, false, false] rfl rfl (by kernel_rfl) (fun _ _ _ h => h) (Or.inl ⟨by rfl, ?_⟩) ?_ ?_
          rotate_left
          · intro w'
            go_simp
            with_reducible rfl
          rotate_left
          · simp only [Act.put, List.setIfInBounds_toArray, List.set_cons_zero, List.set_cons_succ, i64_w, i32_w]
            rfl
          refine pure_ (i := 5) (N := (some 177)) (v := ?_) (a' := ?_) #[true, true, true, true, true, true, false, false, false, false, false, false, false] rfl rfl (by kernel_rfl) (fun _ _ _ h => h) (Or.inl ⟨by rfl, ?_⟩) ?_ ?_
          rotate_left
          · intro w'
            go_simp
            with_reducible rfl
          rotate_left
          · simp only [Act.put, List.setIfInBounds_toArray, List.set_cons_zero, List.set_cons_succ, i64_w, i32_w]
            rfl
          refine pure_ (i := 7) (N := (some 179)) (v := ?_) (a' := ?_) #[true, true, true, true, true, true, false, true, false, false, false, false, false] rfl rfl (by kernel_rfl) (fun _ _ _ h => h) (Or.inl ⟨by rfl, ?_⟩) ?_ ?_
          rotate_left
          · intro w'
            go_simp
            with_reducible rfl
          rotate_left
          · simp only [Act.put, List.setIfInBounds_toArray, List.set_cons_zero, List.set_cons_succ, i64_w, i32_w]
            rfl
          refine pure_ (i := 8) (N := (some 180)) (v := ?_) (a' := ?_) #[true, true, true, true, true, true, false, true, true, false, false, false, false] rfl rfl (by kernel_rfl) (fun _ _ _ h => h) (Or.inl ⟨by rfl, ?_⟩) ?_ ?_
          rotate_left
          · intro w'
            go_simp
            with_reducible rfl
          rotate_left
          · simp only [Act.put, List.setIfInBounds_toArray, List.set_cons_zero, List.set_cons_succ, i64_w, i32_w]
            rfl
          refine pure_ (i := 9) (N := (some 181)) (v := ?_) (a' := ?_) #[true, true, true, true, true, true, false, true, true, true, false, false, false] rfl rfl (by kernel_rfl) (fun _ _ _ h => h) (Or.inl ⟨by rfl, ?_⟩) ?_ ?_
          rotate_left
          · intro w'
            go_simp
            with_reducible rfl
          rotate_left
          · simp only [Act.put, List.setIfInBounds_toArray, List.set_cons_zero, List.set_cons_succ, i64_w, i32_w]
            rfl
          refine take_ (i := 10) (N := (some 182)) (v := ?_) (a' := ?_) #[true, true, true, true, true, true, false, true, true, true, true, false, false] rfl rfl (by kernel_rfl) (fun _ _ _ h => h) (Or.inl ⟨by rfl, ?_⟩) hHeld ?_ ?_
          rotate_left
          · rintro w' s0
            go_simp
            with_reducible rfl
          rotate_left
          · simp only [Act.put, List.setIfInBounds_toArray, List.set_cons_zero, List.set_cons_succ, i64_w, i32_w]
            rfl
          refine one_ (i := 6) (N := (some 178)) #[true, true, true, true, true, true, true, true, true, true, true, false, false] rfl rfl (by kernel_rfl) (by decide) (fun K hK => ?_)
          refine goes_ Try.func17 (by kernel_rfl) rfl #[.pointer (some ⟨L.p, 0, none⟩)] (by rfl) rfl rfl (by (try simp only [List.map_toArray, List.map_cons, List.map_nil]); first | done | rfl) ?_
          refine (Down_any H6.out).mono ?_
          rintro e w7 ⟨rfl, rfl⟩
          refine ⟨_, rfl, ?_⟩
          refine hK.out _ _ hHeld (fun hxx => ?_)
          clear hK K hxx
          refine norm_ (a' := ?_) ?_ ?_
          rotate_left
          · show Act.put _ (some 178) _ = _
            simp only [Act.put, List.setIfInBounds_toArray, List.set_cons_zero, List.set_cons_succ, i64_w, i32_w]
            rfl
          refine pure_ (i := 11) (N := (some 183)) (v := .bool false) (a' := ?_) #[true, true, true, true, true, true, true, true, true, true, true, true, false] rfl rfl (by kernel_rfl) (fun _ _ _ h => h) (Or.inl ⟨by rfl, (fun w' => by go_simp)⟩) ?_ ?_
          rotate_left
          · simp only [Act.put, List.setIfInBounds_toArray, List.set_cons_zero, List.set_cons_succ, i64_w, i32_w]
            rfl
          refine pure_ (i := 12) (N := (some 184)) (v := ?_) (a' := ?_) #[true, true, true, true, true, true, true, true, true, true, true, true, true] rfl rfl (by kernel_rfl) (fun _ _ _ h => h) (Or.inl ⟨by rfl, ?_⟩) ?_ ?_
          rotate_left
          · intro w'
            go_simp
            with_reducible rfl
          rotate_left
          · simp only [Act.put, List.setIfInBounds_toArray, List.set_cons_zero, List.set_cons_succ, i64_w, i32_w]
            rfl
          refine done_ (by kernel_rfl) ?_
          have HE : Fact (∃ D, D.n = n ∧ IsDisk w6 L D ∧ IsRef w6 R D) := ⟨_, HN.out, H6.out, R6.out⟩
          clear hHeld H6 R6 HN
          go_wp2_with fail
          exact ⟨⟨j + 1, by go_num, by omega, HE, B6⟩, by simp [intOf]; omega⟩
        · go_wp2_with fail
          skip
          refine start_ (n := 13) (S := fun w' => w'.cell? ⟨wr.heap.size, 1, none⟩ = some (.int .i64 nn) ∧ w'.cell? ⟨wr.heap.size, 2, none⟩ = some (.slice As dat.length cs)) (ds := []) #[false, false, false, false, false, false, false, false, false, false, false, false, false] (by kernel_rfl) rfl rfl ⟨o1, o2⟩ (fun hHeld => ?_)
          have Ad := Fact.mk AD.out.drew
          have Rd := Fact.mk AR.out.drew
          have Od := Fact.mk OA.out.drew
          have Bd : Fact (Below w.heap.size w wo.drew) := ⟨AB.out.drew⟩
          clear o0 o1 o2 o3 o4 AD AR OA AB
          generalize wo.drew = wd at *
          refine pure_ (i := 0) (N := (some 93)) (v := ?_) (a' := ?_) #[true, false, false, false, false, false, false, false, false, false, false, false, false] rfl rfl (by kernel_rfl) (fun _ _ _ h => h) (Or.inl ⟨by rfl, ?_⟩) ?_ ?_
          rotate_left
          · intro w'
            go_simp
            with_reducible rfl
          rotate_left
          · simp only [Act.put, List.setIfInBounds_toArray, List.set_cons_zero, List.set_cons_succ, i64_w, i32_w]
            rfl
          refine pure_ (i := 1) (N := (some 94)) (v := ?_) (a' := ?_) #[true, true, false, false, false, false, false, false, false, false, false, false, false] rfl rfl (by kernel_rfl) (fun _ _ _ h => h) (Or.inl ⟨by rfl, ?_⟩) ?_ ?_
          rotate_left
          · intro w'
            go_simp
            with_reducible rfl
          rotate_left
          · simp only [Act.put, List.setIfInBounds_toArray, List.set_cons_zero, List.set_cons_succ, i64_w, i32_w]
            rfl
          refine pure_ (i := 3) (N := (some 96)) (v := ?_) (a' := ?_) #[true, true, false, true, false, false, false, false, false, false, false, false, false] rfl rfl (by kernel_rfl) (fun _ _ _ h => h) (Or.inl ⟨by rfl, ?_⟩) ?_ ?_
          rotate_left
          · intro w'
            go_simp
            with_reducible rfl
          rotate_left
          · simp only [Act.put, List.setIfInBounds_toArray, List.set_cons_zero, List.set_cons_succ, i64_w, i32_w]
            rfl
          refine pure_ (i := 6) (N := (some 99)) (v := ?_) (a' := ?_) #[true, true, false, true, false, false, true, false, false, false, false, false, false] rfl rfl (by kernel_rfl) (fun _ _ _ h => h) (Or.inl ⟨by rfl, ?_⟩) ?_ ?_
          rotate_left
          · intro w'
            go_simp
            with_reducible rfl
          rotate_left
          · simp only [Act.put, List.setIfInBounds_toArray, List.set_cons_zero, List.set_cons_succ, i64_w, i32_w]
            rfl
          refine pure_ (i := 7) (N := (some 100)) (v := ?_) (a' := ?_) #[true, true, false, true, false, false, true, true, false, false, false, false, false] rfl rfl (by kernel_rfl) (fun _ _ _ h => h) (Or.inl ⟨by rfl, ?_⟩) ?_ ?_
          rotate_left
          · intro w'
            go_simp
            with_reducible rfl
          rotate_left
          · simp only [Act.put, List.setIfInBounds_toArray, List.set_cons_zero, List.set_cons_succ, i64_w, i32_w]
            rfl
          refine pure_ (i := 9) (N := (some 102)) (v := ?_) (a' := ?_) #[true, true, false, true, false, false, true, true, false, true, false, false, false] rfl rfl (by kernel_rfl) (fun _ _ _ h => h) (Or.inl ⟨by rfl, ?_⟩) ?_ ?_
          rotate_left
          · intro w'
            go_simp
            with_reducible rfl
          rotate_left
          · simp only [Act.put, List.setIfInBounds_toArray, List.set_cons_zero, List.set_cons_succ, i64_w, i32_w]
            rfl
          refine take_ (i := 2) (N := (some 95)) (v := ?_) (a' := ?_) #[true, true, true, true, false, false, true, true, false, true, false, false, false] rfl rfl (by kernel_rfl) (fun _ _ _ h => h) (Or.inl ⟨by rfl, ?_⟩) hHeld ?_ ?_
          rotate_left
          · rintro w' ⟨s0, s1⟩
            go_simp
            with_reducible rfl
          rotate_left
          · simp only [Act.put, List.setIfInBounds_toArray, List.set_cons_zero, List.set_cons_succ, i64_w, i32_w]
            rfl
          refine take_ (i := 4) (N := (some 97)) (v := ?_) (a' := ?_) #[true, true, true, true, true, false, true, true, false, true, false, false, false] rfl rfl (by kernel_rfl) (fun _ _ _ h => h) (Or.inl ⟨by rfl, ?_⟩) hHeld ?_ ?_
          rotate_left
          · rintro w' ⟨s0, s1⟩
            go_simp
            with_reducible rfl
          rotate_left
          · simp only [Act.put, List.setIfInBounds_toArray, List.set_cons_zero, List.set_cons_succ, i64_w, i32_w]
            rfl
          refine take_ (i := 8) (N := (some 101)) (v := ?_) (a' := ?_) #[true, true, true, true, true, false, true, true, true, true, false, false, false] rfl rfl (by kernel_rfl) (fun _ _ _ h => h) (Or.inl ⟨by rfl, ?_⟩) hHeld ?_ ?_
          rotate_left
          · rintro w' ⟨s0, s1⟩
            go_simp
            with_reducible rfl
          rotate_left
          · simp only [Act.put, List.setIfInBounds_toArray, List.set_cons_zero, List.set_cons_succ, i64_w, i32_w]
            rfl
          refine take_ (i := 10) (N := (some 103)) (v := ?_) (a' := ?_) #[true, true, true, true, true, false, true, true, true, true, true, false, false] rfl rfl (by kernel_rfl) (fun _ _ _ h => h) (Or.inl ⟨by rfl, ?_⟩) hHeld ?_ ?_
          rotate_left
          · rintro w' ⟨s0, s1⟩
            go_simp
            with_reducible rfl
          rotate_left
          · simp only [Act.put, List.setIfInBounds_toArray, List.set_cons_zero, List.set_cons_succ, i64_w, i32_w]
            rfl
          refine one_ (i := 5) (N := (some 98)) #[true, true, true, true, true, true, true, true, true, true, true, false, false] rfl rfl (by kernel_rfl) (by decide) (fun K hK => ?_)
          refine goes_ Try.func11 (by kernel_rfl) rfl #[.pointer (some ⟨L.p, 0, none⟩), .int .i64 nn, .slice As dat.length cs] (by rfl) rfl rfl (by (try simp only [List.map_toArray, List.map_cons, List.map_nil]); first | done | rfl) ?_
          refine (Write_any Ad.out nn As cs dat (AX.out _ Bd.out).1 (fun w' ho => (AX.out _ (next_below Bd.out ho HL.out)).1)).mono ?_
          rintro e w4 ⟨rfl, h4, o4⟩
          have D4 := Fact.mk h4
          have R4 := Fact.mk (Rd.out.disk Ad.out o4)
          have B4 := Fact.mk (next_below Bd.out o4 HL.out)
          have O4 := Fact.mk (Od.out.only o4 OL.out.1)
          clear h4 o4 Ad Rd Bd Od
          replace hHeld := And.intro O4.out.c1 O4.out.c2
          dsimp only at hHeld
          refine ⟨_, rfl, ?_⟩
          refine hK.out _ _ hHeld (fun hxx => ?_)
          clear hK K hxx
          refine norm_ (a' := ?_) ?_ ?_
          rotate_left
          · show Act.put _ (some 98) _ = _
            simp only [Act.put, List.setIfInBounds_toArray, List.set_cons_zero, List.set_cons_succ, i64_w, i32_w]
            rfl
          refine one_ (i := 11) (N := (some 104)) #[true, true, true, true, true, true, true, true, true, true, true, true, false] rfl rfl (by kernel_rfl) (by decide) (fun K hK => ?_)
          refine goes_ Try.func22 (by kernel_rfl) rfl #[.pointer (some ⟨R.p, 0, none⟩), .int .i64 nn, .slice As dat.length cs] (by rfl) rfl rfl (by (try simp only [List.map_toArray, List.map_cons, List.map_nil]); first | done | rfl) ?_
          refine (rWrite_any R4.out nn As cs dat (fun w' ho => (AX.out _ (next_below B4.out ho HLR.out)).1)).mono ?_
          rintro e w5 ⟨rfl, r5, o5⟩
          have R5 := Fact.mk r5
          have D5 := Fact.mk (D4.out.refd R4.out o5)
          have B5 := Fact.mk (next_below B4.out o5 HLR.out)
          have O5 := Fact.mk (O4.out.only o5 OL.out.2)
          clear r5 o5 D4 R4 B4 O4
          replace hHeld := And.intro O5.out.c1 O5.out.c2
          dsimp only at hHeld
          refine ⟨_, rfl, ?_⟩
          refine hK.out _ _ hHeld (fun hxx => ?_)
          clear hK K hxx
          refine norm_ (a' := ?_) ?_ ?_
          rotate_left
          · show Act.put _ (some 104) _ = _
            simp only [Act.put, List.setIfInBounds_toArray, List.set_cons_zero, List.set_cons_succ, i64_w, i32_w]
            rfl
          have HN2 : Fact ((D.write nn dat).2.n = n) := ⟨(write_n D nn dat).trans HN.out⟩
          generalize (D.write nn dat).1 = er at *
          generalize (D.write nn dat).2 = D2 at *
          clear hHeld O5 HN
          refine pure_ (i := 12) (N := (some 105)) (v := .bool false) (a' := ?_) #[true, true, true, true, true, true, true, true, true, true, true, true, true] rfl rfl (by kernel_rfl) (fun _ _ _ h => h) (Or.inl ⟨by rfl, (fun w' => by go_simp)⟩) ?_ ?_
          rotate_left
          · simp only [Act.put, List.setIfInBounds_toArray, List.set_cons_zero, List.set_cons_succ, i64_w, i32_w]
            rfl
          refine done_ (by kernel_rfl) ?_
          go_wp2_with fail
          
          have c5 := R5.out.c5
          skip
          refine start_ (n := 13) (S := fun w' => w'.cell? ⟨R.p, 5, none⟩ = some (.bool D2.down)) (ds := []) #[false, false, false, false, false, false, false, false, false, false, false, false, false] (by kernel_rfl) rfl rfl c5 (fun hHeld => ?_)
          have Hd := Fact.mk D5.out.drew
          have Rd := Fact.mk R5.out.drew
          have Bd : Fact (Below w.heap.size w w5.drew) := ⟨B5.out.drew⟩
          clear c5 D5 R5 B5
          generalize w5.drew = wd at *
          refine pure_ (i := 0) (N := (some 172)) (v := ?_) (a' := ?_) #[true, false, false, false, false, false, false, false, false, false, false, false, false] rfl rfl (by kernel_rfl) (fun _ _ _ h => h) (Or.inl ⟨by rfl, ?_⟩) ?_ ?_
          rotate_left
          · intro w'
            go_simp
            with_reducible rfl
          rotate_left
          · simp only [Act.put, List.setIfInBounds_toArray, List.set_cons_zero, List.set_cons_succ, i64_w, i32_w]
            rfl
          refine pure_ (i := 1) (N := (some 173)) (v := ?_) (a' := ?_) #[true, true, false, false, false, false, false, false, false, false, false, false, false] rfl rfl (by kernel_rfl) (fun _ _ _ h => h) (Or.inl ⟨by rfl, ?_⟩) ?_ ?_
          rotate_left
          · intro w'
            go_simp
            with_reducible rfl
          rotate_left
          · simp only [Act.put, List.setIfInBounds_toArray, List.set_cons_zero, List.set_cons_succ, i64_w, i32_w]
            rfl
          refine one_ (i := 2) (N := (some 174)) #[true, true, true, false, false, false, false, false, false, false, false, false, false] rfl rfl (by kernel_rfl) (by decide) (fun K hK => ?_)
          refine goes_ Try.func26 (by kernel_rfl) rfl #[.pointer (some ⟨L.p, 0, none⟩), .pointer (some ⟨R.p, 0, none⟩)] (by rfl) rfl rfl (by (try simp only [List.map_toArray, List.map_cons, List.map_nil]); first | done | rfl) ?_
          refine (pending_same Hd.out Rd.out).mono ?_
          rintro e w6 ⟨rfl, b6⟩
          have H6 := Fact.mk (Hd.out.below b6)
          have R6 := Fact.mk (Rd.out.below b6)
          have B6 := Fact.mk (next_new Bd.out b6)
          replace hHeld := R6.out.c5
          clear b6 Hd Rd Bd
          clear wd
          refine ⟨_, rfl, ?_⟩
          refine hK.out _ _ hHeld (fun hxx => ?_)
          clear hK K hxx
          refine norm_ (a' := ?_) ?_ ?_
          rotate_left
          · show Act.put _ (some 174) _ = _
            simp only [Act.put, List.setIfInBounds_toArray, List.set_cons_zero, List.set_cons_succ, i64_w, i32_w]
            rfl
          refine pure_ (i := 3) (N := (some 175)) (v := ?_) (a' := ?_) #[true, true, true, true, false, false, false, false, false, false, false, false, false] rfl rfl (by kernel_rfl) (fun _ _ _ h => h) (Or.inl ⟨by rfl, ?_⟩) ?_ ?_
          rotate_left
          · intro w'
            go_simp
            with_reducible rfl
          rotate_left
          · simp only [Act.put, List.setIfInBounds_toArray, List.set_cons_zero, List.set_cons_succ, i64_w, i32_w]
            rfl
          refine pure_ (i := 4) (N := (some 176)) (v := ?_) (a' := ?_) #[true, true, true, true, true, false, false, false, false, false, false, false, false] rfl rfl (by kernel_rfl) (fun _ _ _ h => h) (Or.inl ⟨by rfl, ?_⟩) ?_ ?_
          rotate_left
          · intro w'
            go_simp
            with_reducible rfl
          rotate_left
          · simp only [Act.put, List.setIfInBounds_toArray, List.set_cons_zero, List.set_cons_succ, i64_w, i32_w]
            rfl
          refine pure_ (i := 5) (N := (some 177)) (v := ?_) (a' := ?_) #[true, true, true, true, true, true, false, false, false, false, false, false, false] rfl rfl (by kernel_rfl) (fun _ _ _ h => h) (Or.inl ⟨by rfl, ?_⟩) ?_ ?_
          rotate_left
          · intro w'
            go_simp
            with_reducible rfl
          rotate_left
          · simp only [Act.put, List.setIfInBounds_toArray, List.set_cons_zero, List.set_cons_succ, i64_w, i32_w]
            rfl
          refine pure_ (i := 7) (N := (some 179)) (v := ?_) (a' := ?_) #[true, true, true, true, true, true, false, true, false, false, false, false, false] rfl rfl (by kernel_rfl) (fun _ _ _ h => h) (Or.inl ⟨by rfl, ?_⟩) ?_ ?_
          rotate_left
          · intro w'
            go_simp
            with_reducible rfl
          rotate_left
          · simp only [Act.put, List.setIfInBounds_toArray, List.set_cons_zero, List.set_cons_succ, i64_w, i32_w]
            rfl
          refine pure_ (i := 8) (N := (some 180)) (v := ?_) (a' := ?_) #[true, true, true, true, true, true, false, true, true, false, false, false, false] rfl rfl (by kernel_rfl) (fun _ _ _ h => h) (Or.inl ⟨by rfl, ?_⟩) ?_ ?_
          rotate_left
          · intro w'
            go_simp
            with_reducible rfl
          rotate_left
          · simp only [Act.put, List.setIfInBounds_toArray, List.set_cons_zero, List.set_cons_succ, i64_w, i32_w]
            rfl
          refine pure_ (i := 9) (N := (some 181)) (v := ?_) (a' := ?_) #[true, true, true, true, true, true, false, true, true, true, false, false, false] rfl rfl (by kernel_rfl) (fun _ _ _ h => h) (Or.inl ⟨by rfl, ?_⟩) ?_ ?_
          rotate_left
          · intro w'
            go_simp
            with_reducible rfl
          rotate_left
          · simp only [Act.put, List.setIfInBounds_toArray, List.set_cons_zero, List.set_cons_succ, i64_w, i32_w]
            rfl
          refine take_ (i := 10) (N := (some 182)) (v := ?_) (a' := ?_) #[true, true, true, true, true, true, false, true, true, true, true, false, false] rfl rfl (by kernel_rfl) (fun _ _ _ h => h) (Or.inl ⟨by rfl, ?_⟩) hHeld ?_ ?_
          rotate_left
          · rintro w' s0
            go_simp
            with_reducible rfl
          rotate_left
          · simp only [Act.put, List.setIfInBounds_toArray, List.set_cons_zero, List.set_cons_succ, i64_w, i32_w]
            rfl
          refine one_ (i := 6) (N := (some 178)) #[true, true, true, true, true, true, true, true, true, true, true, false, false] rfl rfl (by kernel_rfl) (by decide) (fun K hK => ?_)
          refine goes_ Try.func17 (by kernel_rfl) rfl #[.pointer (some ⟨L.p, 0, none⟩)] (by rfl) rfl rfl (by (try simp only [List.map_toArray, List.map_cons, List.map_nil]); first | done | rfl) ?_
          refine (Down_any H6.out).mono ?_
          rintro e w7 ⟨rfl, rfl⟩
          refine ⟨_, rfl, ?_⟩
          refine hK.out _ _ hHeld (fun hxx => ?_)
          clear hK K hxx
          refine norm_ (a' := ?_) ?_ ?_
          rotate_left
          · show Act.put _ (some 178) _ = _
            simp only [Act.put, List.setIfInBounds_toArray, List.set_cons_zero, List.set_cons_succ, i64_w, i32_w]
            rfl
          refine pure_ (i := 11) (N := (some 183)) (v := .bool false) (a' := ?_) #[true, true, true, true, true, true, true, true, true, true, true, true, false] rfl rfl (by kernel_rfl) (fun _ _ _ h => h) (Or.inl ⟨by rfl, (fun w' => by go_simp)⟩) ?_ ?_
          rotate_left
          · simp only [Act.put, List.setIfInBounds_toArray, List.set_cons_zero, List.set_cons_succ, i64_w, i32_w]
            rfl
          refine pure_ (i := 12) (N := (some 184)) (v := ?_) (a' := ?_) #[true, true, true, true, true, true, true, true, true, true, true, true, true] rfl rfl (by kernel_rfl) (fun _ _ _ h => h) (Or.inl ⟨by rfl, ?_⟩) ?_ ?_
          rotate_left
          · intro w'
            go_simp
            with_reducible rfl
          rotate_left
          · simp only [Act.put, List.setIfInBounds_toArray, List.set_cons_zero, List.set_cons_succ, i64_w, i32_w]
            rfl
          refine done_ (by kernel_rfl) ?_
          have HE : Fact (∃ D, D.n = n ∧ IsDisk w6 L D ∧ IsRef w6 R D) := ⟨_, HN2.out, H6.out, R6.out⟩
          clear hHeld H6 R6 HN2
          go_wp2_with fail
          exact ⟨⟨j + 1, by go_num, by omega, HE, B6⟩, by simp [intOf]; omega⟩
        · go_wp2_with fail
          refine (Flush_any AD.out).mono ?_
          rintro e w4 ⟨rfl, h4, p4⟩
          have D4 := Fact.mk h4
          have R4 := Fact.mk (AR.out.disk AD.out p4)
          have B4 := Fact.mk (next_below AB.out p4 HL.out)
          clear h4 p4 o0 o1 o2 o3 o4 OA AD AR AB
          go_wp2_with fail
          refine (rFlush_any R4.out).mono ?_
          rintro e w5 ⟨rfl, r5, p5⟩
          have R5 := Fact.mk r5
          have D5 := Fact.mk (D4.out.refd R4.out p5)
          have B5 := Fact.mk (next_below B4.out p5 HLR.out)
          have HN2 : Fact (D.flush.2.n = n) := ⟨(flush_n D).trans HN.out⟩
          clear r5 p5 D4 R4 B4 HN
          generalize D.flush.1 = er at *
          generalize D.flush.2 = D2 at *
          go_wp2_with fail
          
          have c5 := R5.out.c5
          skip
          refine start_ (n := 13) (S := fun w' => w'.cell? ⟨R.p, 5, none⟩ = some (.bool D2.down)) (ds := []) #[false, false, false, false, false, false, false, false, false, false, false, false, false] (by kernel_rfl) rfl rfl c5 (fun hHeld => ?_)
          have Hd := Fact.mk D5.out.drew
          have Rd := Fact.mk R5.out.drew
          have Bd : Fact (Below w.heap.size w w5.drew) := ⟨B5.out.drew⟩
          clear c5 D5 R5 B5
          generalize w5.drew = wd at *
          refine pure_ (i := 0) (N := (some 172)) (v := ?_) (a' := ?_) #[true, false, false, false, false, false, false, false, false, false, false, false, false] rfl rfl (by kernel_rfl) (fun _ _ _ h => h) (Or.inl ⟨by rfl, ?_⟩) ?_ ?_
          rotate_left
          · intro w'
            go_simp
            with_reducible rfl
          rotate_left
          · simp only [Act.put, List.setIfInBounds_toArray, List.set_cons_zero, List.set_cons_succ, i64_w, i32_w]
            rfl
          refine pure_ (i := 1) (N := (some 173)) (v := ?_) (a' := ?_) #[true, true, false, false, false, false, false, false, false, false, false, false, false] rfl rfl (by kernel_rfl) (fun _ _ _ h => h) (Or.inl ⟨by rfl, ?_⟩) ?_ ?_
          rotate_left
          · intro w'
            go_simp
            with_reducible rfl
          rotate_left
          · simp only [Act.put, List.setIfInBounds_toArray, List.set_cons_zero, List.set_cons_succ, i64_w, i32_w]
            rfl
          refine one_ (i := 2) (N := (some 174)) #[true, true, true, false, false, false, false, false, false, false, false, false, false] rfl rfl (by kernel_rfl) (by decide) (fun K hK => ?_)
          refine goes_ Try.func26 (by kernel_rfl) rfl #[.pointer (some ⟨L.p, 0, none⟩), .pointer (some ⟨R.p, 0, none⟩)] (by rfl) rfl rfl (by (try simp only [List.map_toArray, List.map_cons, List.map_nil]); first | done | rfl) ?_
          refine (pending_same Hd.out Rd.out).mono ?_
          rintro e w6 ⟨rfl, b6⟩
          have H6 := Fact.mk (Hd.out.below b6)
          have R6 := Fact.mk (Rd.out.below b6)
          have B6 := Fact.mk (next_new Bd.out b6)
          replace hHeld := R6.out.c5
          clear b6 Hd Rd Bd
          clear wd
          refine ⟨_, rfl, ?_⟩
          refine hK.out _ _ hHeld (fun hxx => ?_)
          clear hK K hxx
          refine norm_ (a' := ?_) ?_ ?_
          rotate_left
          · show Act.put _ (some 174) _ = _
            simp only [Act.put, List.setIfInBounds_toArray, List.set_cons_zero, List.set_cons_succ, i64_w, i32_w]
            rfl
          refine pure_ (i := 3) (N := (some 175)) (v := ?_) (a' := ?_) #[true, true, true, true, false, false, false, false, false, false, false, false, false] rfl rfl (by kernel_rfl) (fun _ _ _ h => h) (Or.inl ⟨by rfl, ?_⟩) ?_ ?_
          rotate_left
          · intro w'
            go_simp
            with_reducible rfl
          rotate_left
          · simp only [Act.put, List.setIfInBounds_toArray, List.set_cons_zero, List.set_cons_succ, i64_w, i32_w]
            rfl
          refine pure_ (i := 4) (N := (some 176)) (v := ?_) (a' := ?_) #[true, true, true, true, true, false, false, false, false, false, false, false, false] rfl rfl (by kernel_rfl) (fun _ _ _ h => h) (Or.inl ⟨by rfl, ?_⟩) ?_ ?_
          rotate_left
          · intro w'
            go_simp
            with_reducible rfl
          rotate_left
          · simp only [Act.put, List.setIfInBounds_toArray, List.set_cons_zero, List.set_cons_succ, i64_w, i32_w]
            rfl
          refine pure_ (i := 5) (N := (some 177)) (v := ?_) (a' := ?_) #[true, true, true, true, true, true, false, false, false, false, false, false, false] rfl rfl (by kernel_rfl) (fun _ _ _ h => h) (Or.inl ⟨by rfl, ?_⟩) ?_ ?_
          rotate_left
          · intro w'
            go_simp
            with_reducible rfl
          rotate_left
          · simp only [Act.put, List.setIfInBounds_toArray, List.set_cons_zero, List.set_cons_succ, i64_w, i32_w]
            rfl
          refine pure_ (i := 7) (N := (some 179)) (v := ?_) (a' := ?_) #[true, true, true, true, true, true, false, true, false, false, false, false, false] rfl rfl (by kernel_rfl) (fun _ _ _ h => h) (Or.inl ⟨by rfl, ?_⟩) ?_ ?_
          rotate_left
          · intro w'
            go_simp
            with_reducible rfl
          rotate_left
          · simp only [Act.put, List.setIfInBounds_toArray, List.set_cons_zero, List.set_cons_succ, i64_w, i32_w]
            rfl
          refine pure_ (i := 8) (N := (some 180)) (v := ?_) (a' := ?_) #[true, true, true, true, true, true, false, true, true, false, false, false, false] rfl rfl (by kernel_rfl) (fun _ _ _ h => h) (Or.inl ⟨by rfl, ?_⟩) ?_ ?_
          rotate_left
          · intro w'
            go_simp
            with_reducible rfl
          rotate_left
          · simp only [Act.put, List.setIfInBounds_toArray, List.set_cons_zero, List.set_cons_succ, i64_w, i32_w]
            rfl
          refine pure_ (i := 9) (N := (some 181)) (v := ?_) (a' := ?_) #[true, true, true, true, true, true, false, true, true, true, false, false, false] rfl rfl (by kernel_rfl) (fun _ _ _ h => h) (Or.inl ⟨by rfl, ?_⟩) ?_ ?_
          rotate_left
          · intro w'
            go_simp
            with_reducible rfl
          rotate_left
          · simp only [Act.put, List.setIfInBounds_toArray, List.set_cons_zero, List.set_cons_succ, i64_w, i32_w]
            rfl
          refine take_ (i := 10) (N := (some 182)) (v := ?_) (a' := ?_) #[true, true, true, true, true, true, false, true, true, true, true, false, false] rfl rfl (by kernel_rfl) (fun _ _ _ h => h) (Or.inl ⟨by rfl, ?_⟩) hHeld ?_ ?_
          rotate_left
          · rintro w' s0
            go_simp
            with_reducible rfl
          rotate_left
          · simp only [Act.put, List.setIfInBounds_toArray, List.set_cons_zero, List.set_cons_succ, i64_w, i32_w]
            rfl
          refine one_ (i := 6) (N := (some 178)) #[true, true, true, true, true, true, true, true, true, true, true, false, false] rfl rfl (by kernel_rfl) (by decide) (fun K hK => ?_)
          refine goes_ Try.func17 (by kernel_rfl) rfl #[.pointer (some ⟨L.p, 0, none⟩)] (by rfl) rfl rfl (by (try simp only [List.map_toArray, List.map_cons, List.map_nil]); first | done | rfl) ?_
          refine (Down_any H6.out).mono ?_
          rintro e w7 ⟨rfl, rfl⟩
          refine ⟨_, rfl, ?_⟩
          refine hK.out _ _ hHeld (fun hxx => ?_)
          clear hK K hxx
          refine norm_ (a' := ?_) ?_ ?_
          rotate_left
          · show Act.put _ (some 178) _ = _
            simp only [Act.put, List.setIfInBounds_toArray, List.set_cons_zero, List.set_cons_succ, i64_w, i32_w]
            rfl
          refine pure_ (i := 11) (N := (some 183)) (v := .bool false) (a' := ?_) #[true, true, true, true, true, true, true, true, true, true, true, true, false] rfl rfl (by kernel_rfl) (fun _ _ _ h => h) (Or.inl ⟨by rfl, (fun w' => by go_simp)⟩) ?_ ?_
          rotate_left
          · simp only [Act.put, List.setIfInBounds_toArray, List.set_cons_zero, List.set_cons_succ, i64_w, i32_w]
            rfl
          refine pure_ (i := 12) (N := (some 184)) (v := ?_) (a' := ?_) #[true, true, true, true, true, true, true, true, true, true, true, true, true] rfl rfl (by kernel_rfl) (fun _ _ _ h => h) (Or.inl ⟨by rfl, ?_⟩) ?_ ?_
          rotate_left
          · intro w'
            go_simp
            with_reducible rfl
          rotate_left
          · simp only [Act.put, List.setIfInBounds_toArray, List.set_cons_zero, List.set_cons_succ, i64_w, i32_w]
            rfl
          refine done_ (by kernel_rfl) ?_
          have HE : Fact (∃ D, D.n = n ∧ IsDisk w6 L D ∧ IsRef w6 R D) := ⟨_, HN2.out, H6.out, R6.out⟩
          clear hHeld H6 R6 HN2
          go_wp2_with fail
          exact ⟨⟨j + 1, by go_num, by omega, HE, B6⟩, by simp [intOf]; omega⟩
        · go_wp2_with fail
          refine (Bad_any AD.out nn on).mono ?_
          rintro e w4 ⟨rfl, h4, p4⟩
          have D4 := Fact.mk h4
          have R4 := Fact.mk (AR.out.disk AD.out p4)
          have B4 := Fact.mk (next_below AB.out p4 HL.out)
          have O4 := Fact.mk (OA.out.only p4 OL.out.1)
          have p1 := O4.out.c1
          have p3 := O4.out.c3
          dsimp only at p1 p3
          clear h4 p4 o0 o1 o2 o3 o4 OA AD AR AB
          by_cases hin : 0 ≤ nn ∧ nn < (n : Int)
          · obtain ⟨i, rfl⟩ := Int.eq_ofNat_of_zero_le hin.1
            have hi : i < n := by omega
            have hiD : i < D.n := by rw [HN.out]; exact hi
            have hin1 : (i : Int) < (n : Int) := by omega
            have e0 : D.setBad (i : Int) on = (0, D.badden i on) := setBad_in D hiD on
            rw [e0] at D4 ⊢
            clear hin e0
            have HN2 : Fact ((D.badden i on).n = n) := ⟨HN.out⟩
            go_wp2_with fail
            refine region_tail 9 (by kernel_rfl) (by kernel_rfl) ?_
            intro wd hwd
            have Rd : Fact (IsRef wd R D) := by subst hwd; exact ⟨R4.out.drew⟩
            have Dd : Fact (IsDisk wd L (D.badden i on)) := by subst hwd; exact ⟨D4.out.drew⟩
            have Bd : Fact (Below w.heap.size w wd) := by subst hwd; exact ⟨B4.out.drew⟩
            have p1 : wd.cell? ⟨wr.heap.size, 1, none⟩ = some (.int .i64 (i : Int)) := by subst hwd; exact p1
            have p3 : wd.cell? ⟨wr.heap.size, 3, none⟩ = some (.bool on) := by subst hwd; exact p3
            clear hwd R4 D4 B4 O4
            have c2 := Rd.out.c2
            rw [HN.out] at c2
            have cb := Rd.out.bad hiD
            have fb := Rd.out.fb i
            have R5 : Fact (IsRef (wd.setCell ⟨R.gb, i, none⟩ (.bool on)) R (D.badden i on)) := ⟨Rd.out.setBadAt hiD on⟩
            have D5 := Fact.mk (Dd.out.refd Rd.out (Only.setCell wd R.S_gb (.bool on) (a := ⟨R.gb, i, none⟩)))
            have B5 := Fact.mk (next_below Bd.out (Only.setCell wd R.S_gb (.bool on) (a := ⟨R.gb, i, none⟩)) HLR.out)
            simp only [List.take_succ_cons, List.take_zero, List.drop_succ_cons, List.drop_zero]
            iterate 9 still_step
            refine wpStill_nil ?_
            go_wp2_with fail
            clear c2 cb fb p1 p3 Rd Dd Bd HN
            generalize D.badden i on = D2 at *
            generalize wd.setCell ⟨R.gb, i, none⟩ (.bool on) = w5 at *
            have c5 := R5.out.c5
            skip
            refine start_ (n := 13) (S := fun w' => w'.cell? ⟨R.p, 5, none⟩ = some (.bool D2.down)) (ds := []) #[false, false, false, false, false, false, false, false, false, false, false, false, false] (by kernel_rfl) rfl rfl c5 (fun hHeld => ?_)
            have Hd := Fact.mk D5.out.drew
            have Rd := Fact.mk R5.out.drew
            have Bd : Fact (Below w.heap.size w w5.drew) := ⟨B5.out.drew⟩
            clear c5 D5 R5 B5
            generalize w5.drew = wd at *
            refine pure_ (i := 0) (N := (some 172)) (v := ?_) (a' := ?_) #[true, false, false, false, false, false, false, false, false, false, false, false, false] rfl rfl (by kernel_rfl) (fun _ _ _ h => h) (Or.inl ⟨by rfl, ?_⟩) ?_ ?_
            rotate_left
            · intro w'
              go_simp
              with_reducible rfl
            rotate_left
            · simp only [Act.put, List.setIfInBounds_toArray, List.set_cons_zero, List.set_cons_succ, i64_w, i32_w]
              rfl
            refine pure_ (i := 1) (N := (some 173)) (v := ?_) (a' := ?_) #[true, true, false, false, false, false, false, false, false, false, false, false, false] rfl rfl (by kernel_rfl) (fun _ _ _ h => h) (Or.inl ⟨by rfl, ?_⟩) ?_ ?_
            rotate_left
            · intro w'
              go_simp
              with_reducible rfl
            rotate_left
            · simp only [Act.put, List.setIfInBounds_toArray, List.set_cons_zero, List.set_cons_succ, i64_w, i32_w]
              rfl
            refine one_ (i := 2) (N := (some 174)) #[true, true, true, false, false, false, false, false, false, false, false, false, false] rfl rfl (by kernel_rfl) (by decide) (fun K hK => ?_)
            refine goes_ Try.func26 (by kernel_rfl) rfl #[.pointer (some ⟨L.p, 0, none⟩), .pointer (some ⟨R.p, 0, none⟩)] (by rfl) rfl rfl (by (try simp only [List.map_toArray, List.map_cons, List.map_nil]); first | done | rfl) ?_
            refine (pending_same Hd.out Rd.out).mono ?_
            rintro e w6 ⟨rfl, b6⟩
            have H6 := Fact.mk (Hd.out.below b6)
            have R6 := Fact.mk (Rd.out.below b6)
            have B6 := Fact.mk (next_new Bd.out b6)
            replace hHeld := R6.out.c5
            clear b6 Hd Rd Bd
            clear wd
            refine ⟨_, rfl, ?_⟩
            refine hK.out _ _ hHeld (fun hxx => ?_)
            clear hK K hxx
            refine norm_ (a' := ?_) ?_ ?_
            rotate_left
            · show Act.put _ (some 174) _ = _
              simp only [Act.put, List.setIfInBounds_toArray, List.set_cons_zero, List.set_cons_succ, i64_w, i32_w]
              rfl
            refine pure_ (i := 3) (N := (some 175)) (v := ?_) (a' := ?_) #[true, true, true, true, false, false, false, false, false, false, false, false, false] rfl rfl (by kernel_rfl) (fun _ _ _ h => h) (Or.inl ⟨by rfl, ?_⟩) ?_ ?_
            rotate_left
            · intro w'
              go_simp
              with_reducible rfl
            rotate_left
            · simp only [Act.put, List.setIfInBounds_toArray, List.set_cons_zero, List.set_cons_succ, i64_w, i32_w]
              rfl
            refine pure_ (i := 4) (N := (some 176)) (v := ?_) (a' := ?_) #[true, true, true, true, true, false, false, false, false, false, false, false, false] rfl rfl (by kernel_rfl) (fun _ _ _ h => h) (Or.inl ⟨by rfl, ?_⟩) ?_ ?_
            rotate_left
            · intro w'
              go_simp
              with_reducible rfl
            rotate_left
            · simp only [Act.put, List.setIfInBounds_toArray, List.set_cons_zero, List.set_cons_succ, i64_w, i32_w]
              rfl
            refine pure_ (i := 5) (N := (some 177)) (v := ?_) (a' := ?_) #[true, true, true, true, true, true, false, false, false, false, false, false, false] rfl rfl (by kernel_rfl) (fun _ _ _ h => h) (Or.inl ⟨by rfl, ?_⟩) ?_ ?_
            rotate_left
            · intro w'
              go_simp
              with_reducible rfl
            rotate_left
            · simp only [Act.put, List.setIfInBounds_toArray, List.set_cons_zero, List.set_cons_succ, i64_w, i32_w]
              rfl
            refine pure_ (i := 7) (N := (some 179)) (v := ?_) (a' := ?_) #[true, true, true, true, true, true, false, true, false, false, false, false, false] rfl rfl (by kernel_rfl) (fun _ _ _ h => h) (Or.inl ⟨by rfl, ?_⟩) ?_ ?_
            rotate_left
            · intro w'
              go_simp
              with_reducible rfl
            rotate_left
            · simp only [Act.put, List.setIfInBounds_toArray, List.set_cons_zero, List.set_cons_succ, i64_w, i32_w]
              rfl
            refine pure_ (i := 8) (N := (some 180)) (v := ?_) (a' := ?_) #[true, true, true, true, true, true, false, true, true, false, false, false, false] rfl rfl (by kernel_rfl) (fun _ _ _ h => h) (Or.inl ⟨by rfl, ?_⟩) ?_ ?_
            rotate_left
            · intro w'
              go_simp
              with_reducible rfl
            rotate_left
            · simp only [Act.put, List.setIfInBounds_toArray, List.set_cons_zero, List.set_cons_succ, i64_w, i32_w]
              rfl
            refine pure_ (i := 9) (N := (some 181)) (v := ?_) (a' := ?_) #[true, true, true, true, true, true, false, true, true, true, false, false, false] rfl rfl (by kernel_rfl) (fun _ _ _ h => h) (Or.inl ⟨by rfl, ?_⟩) ?_ ?_
            rotate_left
            · intro w'
              go_simp
              with_reducible rfl
            rotate_left
            · simp only [Act.put, List.setIfInBounds_toArray, List.set_cons_zero, List.set_cons_succ, i64_w, i32_w]
              rfl
            refine take_ (i := 10) (N := (some 182)) (v := ?_) (a' := ?_) #[true, true, true, true, true, true, false, true, true, true, true, false, false] rfl rfl (by kernel_rfl) (fun _ _ _ h => h) (Or.inl ⟨by rfl, ?_⟩) hHeld ?_ ?_
            rotate_left
            · rintro w' s0
              go_simp
              with_reducible rfl
            rotate_left
            · simp only [Act.put, List.setIfInBounds_toArray, List.set_cons_zero, List.set_cons_succ, i64_w, i32_w]
              rfl
            refine one_ (i := 6) (N := (some 178)) #[true, true, true, true, true, true, true, true, true, true, true, false, false] rfl rfl (by kernel_rfl) (by decide) (fun K hK => ?_)
            refine goes_ Try.func17 (by kernel_rfl) rfl #[.pointer (some ⟨L.p, 0, none⟩)] (by rfl) rfl rfl (by (try simp only [List.map_toArray, List.map_cons, List.map_nil]); first | done | rfl) ?_
            refine (Down_any H6.out).mono ?_
            rintro e w7 ⟨rfl, rfl⟩
            refine ⟨_, rfl, ?_⟩
            refine hK.out _ _ hHeld (fun hxx => ?_)
            clear hK K hxx
            refine norm_ (a' := ?_) ?_ ?_
            rotate_left
            · show Act.put _ (some 178) _ = _
              simp only [Act.put, List.setIfInBounds_toArray, List.set_cons_zero, List.set_cons_succ, i64_w, i32_w]
              rfl
            refine pure_ (i := 11) (N := (some 183)) (v := .bool false) (a' := ?_) #[true, true, true, true, true, true, true, true, true, true, true, true, false] rfl rfl (by kernel_rfl) (fun _ _ _ h => h) (Or.inl ⟨by rfl, (fun w' => by go_simp)⟩) ?_ ?_
            rotate_left
            · simp only [Act.put, List.setIfInBounds_toArray, List.set_cons_zero, List.set_cons_succ, i64_w, i32_w]
              rfl
            refine pure_ (i := 12) (N := (some 184)) (v := ?_) (a' := ?_) #[true, true, true, true, true, true, true, true, true, true, true, true, true] rfl rfl (by kernel_rfl) (fun _ _ _ h => h) (Or.inl ⟨by rfl, ?_⟩) ?_ ?_
            rotate_left
            · intro w'
              go_simp
              with_reducible rfl
            rotate_left
            · simp only [Act.put, List.setIfInBounds_toArray, List.set_cons_zero, List.set_cons_succ, i64_w, i32_w]
              rfl
            refine done_ (by kernel_rfl) ?_
            have HE : Fact (∃ D, D.n = n ∧ IsDisk w6 L D ∧ IsRef w6 R D) := ⟨_, HN2.out, H6.out, R6.out⟩
            clear hHeld H6 R6 HN2
            go_wp2_with fail
            exact ⟨⟨j + 1, by go_num, by omega, HE, B6⟩, by simp [intOf]; omega⟩
          
          · have e0 : D.setBad nn on = (11, D) := setBad_out D (by rw [HN.out]; exact hin) on
            rw [e0] at D4 ⊢
            clear e0
            by_cases hng : nn < 0
            · clear hin
              go_wp2_with fail
              clear p1 p3 O4
              have c5 := R4.out.c5
              skip
              refine start_ (n := 13) (S := fun w' => w'.cell? ⟨R.p, 5, none⟩ = some (.bool D.down)) (ds := []) #[false, false, false, false, false, false, false, false, false, false, false, false, false] (by kernel_rfl) rfl rfl c5 (fun hHeld => ?_)
              have Hd := Fact.mk D4.out.drew
              have Rd := Fact.mk R4.out.drew
              have Bd : Fact (Below w.heap.size w w4.drew) := ⟨B4.out.drew⟩
              clear c5 D4 R4 B4
              generalize w4.drew = wd at *
              refine pure_ (i := 0) (N := (some 172)) (v := ?_) (a' := ?_) #[true, false, false, false, false, false, false, false, false, false, false, false, false] rfl rfl (by kernel_rfl) (fun _ _ _ h => h) (Or.inl ⟨by rfl, ?_⟩) ?_ ?_
              rotate_left
              · intro w'
                go_simp
                with_reducible rfl
              rotate_left
              · simp only [Act.put, List.setIfInBounds_toArray, List.set_cons_zero, List.set_cons_succ, i64_w, i32_w]
                rfl
              refine pure_ (i := 1) (N := (some 173)) (v := ?_) (a' := ?_) #[true, true, false, false, false, false, false, false, false, false, false, false, false] rfl rfl (by kernel_rfl) (fun _ _ _ h => h) (Or.inl ⟨by rfl, ?_⟩) ?_ ?_
              rotate_left
              · intro w'
                go_simp
                with_reducible rfl
              rotate_left
              · simp only [Act.put, List.setIfInBounds_toArray, List.set_cons_zero, List.set_cons_succ, i64_w, i32_w]
                rfl
              refine one_ (i := 2) (N := (some 174)) #[true, true, true, false, false, false, false, false, false, false, false, false, false] rfl rfl (by kernel_rfl) (by decide) (fun K hK => ?_)
              refine goes_ Try.func26 (by kernel_rfl) rfl #[.pointer (some ⟨L.p, 0, none⟩), .pointer (some ⟨R.p, 0, none⟩)] (by rfl) rfl rfl (by (try simp only [List.map_toArray, List.map_cons, List.map_nil]); first | done | rfl) ?_
              refine (pending_same Hd.out Rd.out).mono ?_
              rintro e w6 ⟨rfl, b6⟩
              have H6 := Fact.mk (Hd.out.below b6)
              have R6 := Fact.mk (Rd.out.below b6)
              have B6 := Fact.mk (next_new Bd.out b6)
              replace hHeld := R6.out.c5
              clear b6 Hd Rd Bd
              clear wd
              refine ⟨_, rfl, ?_⟩
              refine hK.out _ _ hHeld (fun hxx => ?_)
              clear hK K hxx
              refine norm_ (a' := ?_) ?_ ?_
              rotate_left
              · show Act.put _ (some 174) _ = _
                simp only [Act.put, List.setIfInBounds_toArray, List.set_cons_zero, List.set_cons_succ, i64_w, i32_w]
                rfl
              refine pure_ (i := 3) (N := (some 175)) (v := ?_) (a' := ?_) #[true, true, true, true, false, false, false, false, false, false, false, false, false] rfl rfl (by kernel_rfl) (fun _ _ _ h => h) (Or.inl ⟨by rfl, ?_⟩) ?_ ?_
              rotate_left
              · intro w'
                go_simp
                with_reducible rfl
              rotate_left
              · simp only [Act.put, List.setIfInBounds_toArray, List.set_cons_zero, List.set_cons_succ, i64_w, i32_w]
                rfl
              refine pure_ (i := 4) (N := (some 176)) (v := ?_) (a' := ?_) #[true, true, true, true, true, false, false, false, false, false, false, false, false] rfl rfl (by kernel_rfl) (fun _ _ _ h => h) (Or.inl ⟨by rfl, ?_⟩) ?_ ?_
              rotate_left
              · intro w'
                go_simp
                with_reducible rfl
              rotate_left
              · simp only [Act.put, List.setIfInBounds_toArray, List.set_cons_zero, List.set_cons_succ, i64_w, i32_w]
                rfl
              refine pure_ (i := 5) (N := (some 177)) (v := ?_) (a' := ?_) #[true, true, true, true, true, true, false, false, false, false, false, false, false] rfl rfl (by kernel_rfl) (fun _ _ _ h => h) (Or.inl ⟨by rfl, ?_⟩) ?_ ?_
              rotate_left
              · intro w'
                go_simp
                with_reducible rfl
              rotate_left
              · simp only [Act.put, List.setIfInBounds_toArray, List.set_cons_zero, List.set_cons_succ, i64_w, i32_w]
                rfl
              refine pure_ (i := 7) (N := (some 179)) (v := ?_) (a' := ?_) #[true, true, true, true, true, true, false, true, false, false, false, false, false] rfl rfl (by kernel_rfl) (fun _ _ _ h => h) (Or.inl ⟨by rfl, ?_⟩) ?_ ?_
              rotate_left
              · intro w'
                go_simp
                with_reducible rfl
              rotate_left
              · simp only [Act.put, List.setIfInBounds_toArray, List.set_cons_zero, List.set_cons_succ, i64_w, i32_w]
                rfl
              refine pure_ (i := 8) (N := (some 180)) (v := ?_) (a' := ?_) #[true, true, true, true, true, true, false, true, true, false, false, false, false] rfl rfl (by kernel_rfl) (fun _ _ _ h => h) (Or.inl ⟨by rfl, ?_⟩) ?_ ?_
              rotate_left
              · intro w'
                go_simp
                with_reducible rfl
              rotate_left
              · simp only [Act.put, List.setIfInBounds_toArray, List.set_cons_zero, List.set_cons_succ, i64_w, i32_w]
                rfl
              refine pure_ (i := 9) (N := (some 181)) (v := ?_) (a' := ?_) #[true, true, true, true, true, true, false, true, true, true, false, false, false] rfl rfl (by kernel_rfl) (fun _ _ _ h => h) (Or.inl ⟨by rfl, ?_⟩) ?_ ?_
              rotate_left
              · intro w'
                go_simp
                with_reducible rfl
              rotate_left
              · simp only [Act.put, List.setIfInBounds_toArray, List.set_cons_zero, List.set_cons_succ, i64_w, i32_w]
                rfl
              refine take_ (i := 10) (N := (some 182)) (v := ?_) (a' := ?_) #[true, true, true, true, true, true, false, true, true, true, true, false, false] rfl rfl (by kernel_rfl) (fun _ _ _ h => h) (Or.inl ⟨by rfl, ?_⟩) hHeld ?_ ?_
              rotate_left
              · rintro w' s0
                go_simp
                with_reducible rfl
              rotate_left
              · simp only [Act.put, List.setIfInBounds_toArray, List.set_cons_zero, List.set_cons_succ, i64_w, i32_w]
                rfl
              refine one_ (i := 6) (N := (some 178)) #[true, true, true, true, true, true, true, true, true, true, true, false, false] rfl rfl (by kernel_rfl) (by decide) (fun K hK => ?_)
              refine goes_ Try.func17 (by kernel_rfl) rfl #[.pointer (some ⟨L.p, 0, none⟩)] (by rfl) rfl rfl (by (try simp only [List.map_toArray, List.map_cons, List.map_nil]); first | done | rfl) ?_
              refine (Down_any H6.out).mono ?_
              rintro e w7 ⟨rfl, rfl⟩
              refine ⟨_, rfl, ?_⟩
              refine hK.out _ _ hHeld (fun hxx => ?_)
              clear hK K hxx
              refine norm_ (a' := ?_) ?_ ?_
              rotate_left
              · show Act.put _ (some 178) _ = _
                simp only [Act.put, List.setIfInBounds_toArray, List.set_cons_zero, List.set_cons_succ, i64_w, i32_w]
                rfl
              refine pure_ (i := 11) (N := (some 183)) (v := .bool false) (a' := ?_) #[true, true, true, true, true, true, true, true, true, true, true, true, false] rfl rfl (by kernel_rfl) (fun _ _ _ h => h) (Or.inl ⟨by rfl, (fun w' => by go_simp)⟩) ?_ ?_
              rotate_left
              · simp only [Act.put, List.setIfInBounds_toArray, List.set_cons_zero, List.set_cons_succ, i64_w, i32_w]
                rfl
              refine pure_ (i := 12) (N := (some 184)) (v := ?_) (a' := ?_) #[true, true, true, true, true, true, true, true, true, true, true, true, true] rfl rfl (by kernel_rfl) (fun _ _ _ h => h) (Or.inl ⟨by rfl, ?_⟩) ?_ ?_
              rotate_left
              · intro w'
                go_simp
                with_reducible rfl
              rotate_left
              · simp only [Act.put, List.setIfInBounds_toArray, List.set_cons_zero, List.set_cons_succ, i64_w, i32_w]
                rfl
              refine done_ (by kernel_rfl) ?_
              have HE : Fact (∃ D, D.n = n ∧ IsDisk w6 L D ∧ IsRef w6 R D) := ⟨_, HN.out, H6.out, R6.out⟩
              clear hHeld H6 R6 HN
              go_wp2_with fail
              exact ⟨⟨j + 1, by go_num, by omega, HE, B6⟩, by simp [intOf]; omega⟩
          
            · have hng1 : 0 ≤ nn := by omega
              have hng2 : (n : Int) ≤ nn := by omega
              clear hin hng
              go_wp2_with fail
              clear p1 p3 O4
              have c5 := R4.out.c5
              skip
              refine start_ (n := 13) (S := fun w' => w'.cell? ⟨R.p, 5, none⟩ = some (.bool D.down)) (ds := []) #[false, false, false, false, false, false, false, false, false, false, false, false, false] (by kernel_rfl) rfl rfl c5 (fun hHeld => ?_)
              have Hd := Fact.mk D4.out.drew
              have Rd := Fact.mk R4.out.drew
              have Bd : Fact (Below w.heap.size w w4.drew) := ⟨B4.out.drew⟩
              clear c5 D4 R4 B4
              generalize w4.drew = wd at *
              refine pure_ (i := 0) (N := (some 172)) (v := ?_) (a' := ?_) #[true, false, false, false, false, false, false, false, false, false, false, false, false] rfl rfl (by kernel_rfl) (fun _ _ _ h => h) (Or.inl ⟨by rfl, ?_⟩) ?_ ?_
              rotate_left
              · intro w'
                go_simp
                with_reducible rfl
              rotate_left
              · simp only [Act.put, List.setIfInBounds_toArray, List.set_cons_zero, List.set_cons_succ, i64_w, i32_w]
                rfl
              refine pure_ (i := 1) (N := (some 173)) (v := ?_) (a' := ?_) #[true, true, false, false, false, false, false, false, false, false, false, false, false] rfl rfl (by kernel_rfl) (fun _ _ _ h => h) (Or.inl ⟨by rfl, ?_⟩) ?_ ?_
              rotate_left
              · intro w'
                go_simp
                with_reducible rfl
              rotate_left
              · simp only [Act.put, List.setIfInBounds_toArray, List.set_cons_zero, List.set_cons_succ, i64_w, i32_w]
                rfl
              refine one_ (i := 2) (N := (some 174)) #[true, true, true, false, false, false, false, false, false, false, false, false, false] rfl rfl (by kernel_rfl) (by decide) (fun K hK => ?_)
              refine goes_ Try.func26 (by kernel_rfl) rfl #[.pointer (some ⟨L.p, 0, none⟩), .pointer (some ⟨R.p, 0, none⟩)] (by rfl) rfl rfl (by (try simp only [List.map_toArray, List.map_cons, List.map_nil]); first | done | rfl) ?_
              refine (pending_same Hd.out Rd.out).mono ?_
              rintro e w6 ⟨rfl, b6⟩
              have H6 := Fact.mk (Hd.out.below b6)
              have R6 := Fact.mk (Rd.out.below b6)
              have B6 := Fact.mk (next_new Bd.out b6)
              replace hHeld := R6.out.c5
              clear b6 Hd Rd Bd
              clear wd
              refine ⟨_, rfl, ?_⟩
              refine hK.out _ _ hHeld (fun hxx => ?_)
              clear hK K hxx
              refine norm_ (a' := ?_) ?_ ?_
              rotate_left
              · show Act.put _ (some 174) _ = _
                simp only [Act.put, List.setIfInBounds_toArray, List.set_cons_zero, List.set_cons_succ, i64_w, i32_w]
                rfl
              refine pure_ (i := 3) (N := (some 175)) (v := ?_) (a' := ?_) #[true, true, true, true, false, false, false, false, false, false, false, false, false] rfl rfl (by kernel_rfl) (fun _ _ _ h => h) (Or.inl ⟨by rfl, ?_⟩) ?_ ?_
              rotate_left
              · intro w'
                go_simp
                with_reducible rfl
              rotate_left
              · simp only [Act.put, List.setIfInBounds_toArray, List.set_cons_zero, List.set_cons_succ, i64_w, i32_w]
                rfl
              refine pure_ (i := 4) (N := (some 176)) (v := ?_) (a' := ?_) #[true, true, true, true, true, false, false, false, false, false, false, false, false] rfl rfl (by kernel_rfl) (fun _ _ _ h => h) (Or.inl ⟨by rfl, ?_⟩) ?_ ?_
              rotate_left
              · intro w'
                go_simp
                with_reducible rfl
              rotate_left
              · simp only [Act.put, List.setIfInBounds_toArray, List.set_cons_zero, List.set_cons_succ, i64_w, i32_w]
                rfl
              refine pure_ (i := 5) (N := (some 177)) (v := ?_) (a' := ?_) #[true, true, true, true, true, true, false, false, false, false, false, false, false] rfl rfl (by kernel_rfl) (fun _ _ _ h => h) (Or.inl ⟨by rfl, ?_⟩) ?_ ?_
              rotate_left
              · intro w'
                go_simp
                with_reducible rfl
              rotate_left
              · simp only [Act.put, List.setIfInBounds_toArray, List.set_cons_zero, List.set_cons_succ, i64_w, i32_w]
                rfl
              refine pure_ (i := 7) (N := (some 179)) (v := ?_) (a' := ?_) #[true, true, true, true, true, true, false, true, false, false, false, false, false] rfl rfl (by kernel_rfl) (fun _ _ _ h => h) (Or.inl ⟨by rfl, ?_⟩) ?_ ?_
              rotate_left
              · intro w'
                go_simp
                with_reducible rfl
              rotate_left
              · simp only [Act.put, List.setIfInBounds_toArray, List.set_cons_zero, List.set_cons_succ, i64_w, i32_w]
                rfl
              refine pure_ (i := 8) (N := (some 180)) (v := ?_) (a' := ?_) #[true, true, true, true, true, true, false, true, true, false, false, false, false] rfl rfl (by kernel_rfl) (fun _ _ _ h => h) (Or.inl ⟨by rfl, ?_⟩) ?_ ?_
              rotate_left
              · intro w'
                go_simp
                with_reducible rfl
              rotate_left
              · simp only [Act.put, List.setIfInBounds_toArray, List.set_cons_zero, List.set_cons_succ, i64_w, i32_w]
                rfl
              refine pure_ (i := 9) (N := (some 181)) (v := ?_) (a' := ?_) #[true, true, true, true, true, true, false, true, true, true, false, false, false] rfl rfl (by kernel_rfl) (fun _ _ _ h => h) (Or.inl ⟨by rfl, ?_⟩) ?_ ?_
              rotate_left
              · intro w'
                go_simp
                with_reducible rfl
              rotate_left
              · simp only [Act.put, List.setIfInBounds_toArray, List.set_cons_zero, List.set_cons_succ, i64_w, i32_w]
                rfl
              refine take_ (i := 10) (N := (some 182)) (v := ?_) (a' := ?_) #[true, true, true, true, true, true, false, true, true, true, true, false, false] rfl rfl (by kernel_rfl) (fun _ _ _ h => h) (Or.inl ⟨by rfl, ?_⟩) hHeld ?_ ?_
              rotate_left
              · rintro w' s0
                go_simp
                with_reducible rfl
              rotate_left
              · simp only [Act.put, List.setIfInBounds_toArray, List.set_cons_zero, List.set_cons_succ, i64_w, i32_w]
                rfl
              refine one_ (i := 6) (N := (some 178)) #[true, true, true, true, true, true, true, true, true, true, true, false, false] rfl rfl (by kernel_rfl) (by decide) (fun K hK => ?_)
              refine goes_ Try.func17 (by kernel_rfl) rfl #[.pointer (some ⟨L.p, 0, none⟩)] (by rfl) rfl rfl (by (try simp only [List.map_toArray, List.map_cons, List.map_nil]); first | done | rfl) ?_
              refine (Down_any H6.out).mono ?_
              rintro e w7 ⟨rfl, rfl⟩
              refine ⟨_, rfl, ?_⟩
              refine hK.out _ _ hHeld (fun hxx => ?_)
              clear hK K hxx
              refine norm_ (a' := ?_) ?_ ?_
              rotate_left
              · show Act.put _ (some 178) _ = _
                simp only [Act.put, List.setIfInBounds_toArray, List.set_cons_zero, List.set_cons_succ, i64_w, i32_w]
                rfl
              refine pure_ (i := 11) (N := (some 183)) (v := .bool false) (a' := ?_) #[true, true, true, true, true, true, true, true, true, true, true, true, false] rfl rfl (by kernel_rfl) (fun _ _ _ h => h) (Or.inl ⟨by rfl, (fun w' => by go_simp)⟩) ?_ ?_
              rotate_left
              · simp only [Act.put, List.setIfInBounds_toArray, List.set_cons_zero, List.set_cons_succ, i64_w, i32_w]
                rfl
              refine pure_ (i := 12) (N := (some 184)) (v := ?_) (a' := ?_) #[true, true, true, true, true, true, true, true, true, true, true, true, true] rfl rfl (by kernel_rfl) (fun _ _ _ h => h) (Or.inl ⟨by rfl, ?_⟩) ?_ ?_
              rotate_left
              · intro w'
                go_simp
                with_reducible rfl
              rotate_left
              · simp only [Act.put, List.setIfInBounds_toArray, List.set_cons_zero, List.set_cons_succ, i64_w, i32_w]
                rfl
              refine done_ (by kernel_rfl) ?_
              have HE : Fact (∃ D, D.n = n ∧ IsDisk w6 L D ∧ IsRef w6 R D) := ⟨_, HN.out, H6.out, R6.out⟩
              clear hHeld H6 R6 HN
              go_wp2_with fail
              exact ⟨⟨j + 1, by go_num, by omega, HE, B6⟩, by simp [intOf]; omega⟩
        · go_wp2_with fail
          refine (Arm_any AD.out nn HX.out).mono ?_
          rintro e w4 ⟨rfl, h4, p4⟩
          have D4 := Fact.mk h4
          have R4 := Fact.mk (AR.out.disk AD.out p4)
          have B4 := Fact.mk (next_below AB.out p4 HL.out)
          have O4 := Fact.mk (OA.out.only p4 OL.out.1)
          have p1 := O4.out.c1
          dsimp only at p1
          clear h4 p4 o0 o1 o2 o3 o4 OA AD AR AB
          go_wp2_with fail
          refine (rArm_any R4.out nn HX.out).mono ?_
          rintro e w5 ⟨rfl, r5, p5⟩
          have R5 := Fact.mk r5
          have D5 := Fact.mk (D4.out.refd R4.out p5)
          have B5 := Fact.mk (next_below B4.out p5 HLR.out)
          have HN2 : Fact ((D.arm nn).n = n) := ⟨HN.out⟩
          clear r5 p5 D4 R4 B4 HN O4 p1
          generalize D.arm nn = D2 at *
          go_wp2_with fail
          
          have c5 := R5.out.c5
          skip
          refine start_ (n := 13) (S := fun w' => w'.cell? ⟨R.p, 5, none⟩ = some (.bool D2.down)) (ds := []) #[false, false, false, false, false, false, false, false, false, false, false, false, false] (by kernel_rfl) rfl rfl c5 (fun hHeld => ?_)
          have Hd := Fact.mk D5.out.drew
          have Rd := Fact.mk R5.out.drew
          have Bd : Fact (Below w.heap.size w w5.drew) := ⟨B5.out.drew⟩
          clear c5 D5 R5 B5
          generalize w5.drew = wd at *
          refine pure_ (i := 0) (N := (some 172)) (v := ?_) (a' := ?_) #[true, false, false, false, false, false, false, false, false, false, false, false, false] rfl rfl (by kernel_rfl) (fun _ _ _ h => h) (Or.inl ⟨by rfl, ?_⟩) ?_ ?_
          rotate_left
          · intro w'
            go_simp
            with_reducible rfl
          rotate_left
          · simp only [Act.put, List.setIfInBounds_toArray, List.set_cons_zero, List.set_cons_succ, i64_w, i32_w]
            rfl
          refine pure_ (i := 1) (N := (some 173)) (v := ?_) (a' := ?_) #[true, true, false, false, false, false, false, false, false, false, false, false, false] rfl rfl (by kernel_rfl) (fun _ _ _ h => h) (Or.inl ⟨by rfl, ?_⟩) ?_ ?_
          rotate_left
          · intro w'
            go_simp
            with_reducible rfl
          rotate_left
          · simp only [Act.put, List.setIfInBounds_toArray, List.set_cons_zero, List.set_cons_succ, i64_w, i32_w]
            rfl
          refine one_ (i := 2) (N := (some 174)) #[true, true, true, false, false, false, false, false, false, false, false, false, false] rfl rfl (by kernel_rfl) (by decide) (fun K hK => ?_)
          refine goes_ Try.func26 (by kernel_rfl) rfl #[.pointer (some ⟨L.p, 0, none⟩), .pointer (some ⟨R.p, 0, none⟩)] (by rfl) rfl rfl (by (try simp only [List.map_toArray, List.map_cons, List.map_nil]); first | done | rfl) ?_
          refine (pending_same Hd.out Rd.out).mono ?_
          rintro e w6 ⟨rfl, b6⟩
          have H6 := Fact.mk (Hd.out.below b6)
          have R6 := Fact.mk (Rd.out.below b6)
          have B6 := Fact.mk (next_new Bd.out b6)
          replace hHeld := R6.out.c5
          clear b6 Hd Rd Bd
          clear wd
          refine ⟨_, rfl, ?_⟩
          refine hK.out _ _ hHeld (fun hxx => ?_)
          clear hK K hxx
          refine norm_ (a' := ?_) ?_ ?_
          rotate_left
          · show Act.put _ (some 174) _ = _
            simp only [Act.put, List.setIfInBounds_toArray, List.set_cons_zero, List.set_cons_succ, i64_w, i32_w]
            rfl
          refine pure_ (i := 3) (N := (some 175)) (v := ?_) (a' := ?_) #[true, true, true, true, false, false, false, false, false, false, false, false, false] rfl rfl (by kernel_rfl) (fun _ _ _ h => h) (Or.inl ⟨by rfl, ?_⟩) ?_ ?_
          rotate_left
          · intro w'
            go_simp
            with_reducible rfl
          rotate_left
          · simp only [Act.put, List.setIfInBounds_toArray, List.set_cons_zero, List.set_cons_succ, i64_w, i32_w]
            rfl
          refine pure_ (i := 4) (N := (some 176)) (v := ?_) (a' := ?_) #[true, true, true, true, true, false, false, false, false, false, false, false, false] rfl rfl (by kernel_rfl) (fun _ _ _ h => h) (Or.inl ⟨by rfl, ?_⟩) ?_ ?_
          rotate_left
          · intro w'
            go_simp
            with_reducible rfl
          rotate_left
          · simp only [Act.put, List.setIfInBounds_toArray, List.set_cons_zero, List.set_cons_succ, i64_w, i32_w]
            rfl
          refine pure_ (i := 5) (N := (some 177)) (v := ?_) (a' := ?_) #[true, true, true, true, true, true, false, false, false, false, false, false, false] rfl rfl (by kernel_rfl) (fun _ _ _ h => h) (Or.inl ⟨by rfl, ?_⟩) ?_ ?_
          rotate_left
          · intro w'
            go_simp
            with_reducible rfl
          rotate_left
          · simp only [Act.put, List.setIfInBounds_toArray, List.set_cons_zero, List.set_cons_succ, i64_w, i32_w]
            rfl
          refine pure_ (i := 7) (N := (some 179)) (v := ?_) (a' := ?_) #[true, true, true, true, true, true, false, true, false, false, false, false, false] rfl rfl (by kernel_rfl) (fun _ _ _ h => h) (Or.inl ⟨by rfl, ?_⟩) ?_ ?_
          rotate_left
          · intro w'
            go_simp
            with_reducible rfl
          rotate_left
          · simp only [Act.put, List.setIfInBounds_toArray, List.set_cons_zero, List.set_cons_succ, i64_w, i32_w]
            rfl
          refine pure_ (i := 8) (N := (some 180)) (v := ?_) (a' := ?_) #[true, true, true, true, true, true, false, true, true, false, false, false, false] rfl rfl (by kernel_rfl) (fun _ _ _ h => h) (Or.inl ⟨by rfl, ?_⟩) ?_ ?_
          rotate_left
          · intro w'
            go_simp
            with_reducible rfl
          rotate_left
          · simp only [Act.put, List.setIfInBounds_toArray, List.set_cons_zero, List.set_cons_succ, i64_w, i32_w]
            rfl
          refine pure_ (i := 9) (N := (some 181)) (v := ?_) (a' := ?_) #[true, true, true, true, true, true, false, true, true, true, false, false, false] rfl rfl (by kernel_rfl) (fun _ _ _ h => h) (Or.inl ⟨by rfl, ?_⟩) ?_ ?_
          rotate_left
          · intro w'
            go_simp
            with_reducible rfl
          rotate_left
          · simp only [Act.put, List.setIfInBounds_toArray, List.set_cons_zero, List.set_cons_succ, i64_w, i32_w]
            rfl
          refine take_ (i := 10) (N := (some 182)) (v := ?_) (a' := ?_) #[true, true, true, true, true, true, false, true, true, true, true, false, false] rfl rfl (by kernel_rfl) (fun _ _ _ h => h) (Or.inl ⟨by rfl, ?_⟩) hHeld ?_ ?_
          rotate_left
          · rintro w' s0
            go_simp
            with_reducible rfl
          rotate_left
          · simp only [Act.put, List.setIfInBounds_toArray, List.set_cons_zero, List.set_cons_succ, i64_w, i32_w]
            rfl
          refine one_ (i := 6) (N := (some 178)) #[true, true, true, true, true, true, true, true, true, true, true, false, false] rfl rfl (by kernel_rfl) (by decide) (fun K hK => ?_)
          refine goes_ Try.func17 (by kernel_rfl) rfl #[.pointer (some ⟨L.p, 0, none⟩)] (by rfl) rfl rfl (by (try simp only [List.map_toArray, List.map_cons, List.map_nil]); first | done | rfl) ?_
          refine (Down_any H6.out).mono ?_
          rintro e w7 ⟨rfl, rfl⟩
          refine ⟨_, rfl, ?_⟩
          refine hK.out _ _ hHeld (fun hxx => ?_)
          clear hK K hxx
          refine norm_ (a' := ?_) ?_ ?_
          rotate_left
          · show Act.put _ (some 178) _ = _
            simp only [Act.put, List.setIfInBounds_toArray, List.set_cons_zero, List.set_cons_succ, i64_w, i32_w]
            rfl
          refine pure_ (i := 11) (N := (some 183)) (v := .bool false) (a' := ?_) #[true, true, true, true, true, true, true, true, true, true, true, true, false] rfl rfl (by kernel_rfl) (fun _ _ _ h => h) (Or.inl ⟨by rfl, (fun w' => by go_simp)⟩) ?_ ?_
          rotate_left
          · simp only [Act.put, List.setIfInBounds_toArray, List.set_cons_zero, List.set_cons_succ, i64_w, i32_w]
            rfl
          refine pure_ (i := 12) (N := (some 184)) (v := ?_) (a' := ?_) #[true, true, true, true, true, true, true, true, true, true, true, true, true] rfl rfl (by kernel_rfl) (fun _ _ _ h => h) (Or.inl ⟨by rfl, ?_⟩) ?_ ?_
          rotate_left
          · intro w'
            go_simp
            with_reducible rfl
          rotate_left
          · simp only [Act.put, List.setIfInBounds_toArray, List.set_cons_zero, List.set_cons_succ, i64_w, i32_w]
            rfl
          refine done_ (by kernel_rfl) ?_
          have HE : Fact (∃ D, D.n = n ∧ IsDisk w6 L D ∧ IsRef w6 R D) := ⟨_, HN2.out, H6.out, R6.out⟩
          clear hHeld H6 R6 HN2
          go_wp2_with fail
          exact ⟨⟨j + 1, by go_num, by omega, HE, B6⟩, by simp [intOf]; omega⟩
        · go_wp2_with fail
          refine (Crash_any AD.out Ab cb keep (fun W ho => (AX.out _ (next_below AB.out ho HL.out)).2)).mono ?_
          rintro e w4 ⟨rfl, h4, p4⟩
          have D4 := Fact.mk h4
          have R4 := Fact.mk (AR.out.disk AD.out p4)
          have B4 := Fact.mk (next_below AB.out p4 HL.out)
          have O4 := Fact.mk (OA.out.only p4 OL.out.1)
          have p4 := O4.out.c4
          dsimp only at p4
          clear h4 o0 o1 o2 o3 o4 OA AD AR AB
          go_wp2_with fail
          refine (rCrash_any R4.out Ab cb keep (fun W ho => (AX.out _ (next_below B4.out ho HLR.out)).2)).mono ?_
          rintro e w5 ⟨rfl, r5, p5⟩
          have R5 := Fact.mk r5
          have D5 := Fact.mk (D4.out.refd R4.out p5)
          have B5 := Fact.mk (next_below B4.out p5 HLR.out)
          have HN2 : Fact ((D.crash keep).n = n) := ⟨HN.out⟩
          clear r5 p5 D4 R4 B4 HN O4 p4
          generalize D.crash keep = D2 at *
          go_wp2_with fail
          
          have c5 := R5.out.c5
          skip
          refine start_ (n := 13) (S := fun w' => w'.cell? ⟨R.p, 5, none⟩ = some (.bool D2.down)) (ds := []) #[false, false, false, false, false, false, false, false, false, false, false, false, false] (by kernel_rfl) rfl rfl c5 (fun hHeld => ?_)
          have Hd := Fact.mk D5.out.drew
          have Rd := Fact.mk R5.out.drew
          have Bd : Fact (Below w.heap.size w w5.drew) := ⟨B5.out.drew⟩
          clear c5 D5 R5 B5
          generalize w5.drew = wd at *
          refine pure_ (i := 0) (N := (some 172)) (v := ?_) (a' := ?_) #[true, false, false, false, false, false, false, false, false, false, false, false, false] rfl rfl (by kernel_rfl) (fun _ _ _ h => h) (Or.inl ⟨by rfl, ?_⟩) ?_ ?_
          rotate_left
          · intro w'
            go_simp
            with_reducible rfl
          rotate_left
          · simp only [Act.put, List.setIfInBounds_toArray, List.set_cons_zero, List.set_cons_succ, i64_w, i32_w]
            rfl
          refine pure_ (i := 1) (N := (some 173)) (v := ?_) (a' := ?_) #[true, true, false, false, false, false, false, false, false, false, false, false, false] rfl rfl (by kernel_rfl) (fun _ _ _ h => h) (Or.inl ⟨by rfl, ?_⟩) ?_ ?_
          rotate_left
          · intro w'
            go_simp
            with_reducible rfl
          rotate_left
          · simp only [Act.put, List.setIfInBounds_toArray, List.set_cons_zero, List.set_cons_succ, i64_w, i32_w]
            rfl
          refine one_ (i := 2) (N := (some 174)) #[true, true, true, false, false, false, false, false, false, false, false, false, false] rfl rfl (by kernel_rfl) (by decide) (fun K hK => ?_)
          refine goes_ Try.func26 (by kernel_rfl) rfl #[.pointer (some ⟨L.p, 0, none⟩), .pointer (some ⟨R.p, 0, none⟩)] (by rfl) rfl rfl (by (try simp only [List.map_toArray, List.map_cons, List.map_nil]); first | done | rfl) ?_
          refine (pending_same Hd.out Rd.out).mono ?_
          rintro e w6 ⟨rfl, b6⟩
          have H6 := Fact.mk (Hd.out.below b6)
          have R6 := Fact.mk (Rd.out.below b6)
          have B6 := Fact.mk (next_new Bd.out b6)
          replace hHeld := R6.out.c5
          clear b6 Hd Rd Bd
          clear wd
          refine ⟨_, rfl, ?_⟩
          refine hK.out _ _ hHeld (fun hxx => ?_)
          clear hK K hxx
          refine norm_ (a' := ?_) ?_ ?_
          rotate_left
          · show Act.put _ (some 174) _ = _
            simp only [Act.put, List.setIfInBounds_toArray, List.set_cons_zero, List.set_cons_succ, i64_w, i32_w]
            rfl
          refine pure_ (i := 3) (N := (some 175)) (v := ?_) (a' := ?_) #[true, true, true, true, false, false, false, false, false, false, false, false, false] rfl rfl (by kernel_rfl) (fun _ _ _ h => h) (Or.inl ⟨by rfl, ?_⟩) ?_ ?_
          rotate_left
          · intro w'
            go_simp
            with_reducible rfl
          rotate_left
          · simp only [Act.put, List.setIfInBounds_toArray, List.set_cons_zero, List.set_cons_succ, i64_w, i32_w]
            rfl
          refine pure_ (i := 4) (N := (some 176)) (v := ?_) (a' := ?_) #[true, true, true, true, true, false, false, false, false, false, false, false, false] rfl rfl (by kernel_rfl) (fun _ _ _ h => h) (Or.inl ⟨by rfl, ?_⟩) ?_ ?_
          rotate_left
          · intro w'
            go_simp
            with_reducible rfl
          rotate_left
          · simp only [Act.put, List.setIfInBounds_toArray, List.set_cons_zero, List.set_cons_succ, i64_w, i32_w]
            rfl
          refine pure_ (i := 5) (N := (some 177)) (v := ?_) (a' := ?_) #[true, true, true, true, true, true, false, false, false, false, false, false, false] rfl rfl (by kernel_rfl) (fun _ _ _ h => h) (Or.inl ⟨by rfl, ?_⟩) ?_ ?_
          rotate_left
          · intro w'
            go_simp
            with_reducible rfl
          rotate_left
          · simp only [Act.put, List.setIfInBounds_toArray, List.set_cons_zero, List.set_cons_succ, i64_w, i32_w]
            rfl
          refine pure_ (i := 7) (N := (some 179)) (v := ?_) (a' := ?_) #[true, true, true, true, true, true, false, true, false, false, false, false, false] rfl rfl (by kernel_rfl) (fun _ _ _ h => h) (Or.inl ⟨by rfl, ?_⟩) ?_ ?_
          rotate_left
          · intro w'
            go_simp
            with_reducible rfl
          rotate_left
          · simp only [Act.put, List.setIfInBounds_toArray, List.set_cons_zero, List.set_cons_succ, i64_w, i32_w]
            rfl
          refine pure_ (i := 8) (N := (some 180)) (v := ?_) (a' := ?_) #[true, true, true, true, true, true, false, true, true, false, false, false, false] rfl rfl (by kernel_rfl) (fun _ _ _ h => h) (Or.inl ⟨by rfl, ?_⟩) ?_ ?_
          rotate_left
          · intro w'
            go_simp
            with_reducible rfl
          rotate_left
          · simp only [Act.put, List.setIfInBounds_toArray, List.set_cons_zero, List.set_cons_succ, i64_w, i32_w]
            rfl
          refine pure_ (i := 9) (N := (some 181)) (v := ?_) (a' := ?_) #[true, true, true, true, true, true, false, true, true, true, false, false, false] rfl rfl (by kernel_rfl) (fun _ _ _ h => h) (Or.inl ⟨by rfl, ?_⟩) ?_ ?_
          rotate_left
          · intro w'
            go_simp
            with_reducible rfl
          rotate_left
          · simp only [Act.put, List.setIfInBounds_toArray, List.set_cons_zero, List.set_cons_succ, i64_w, i32_w]
            rfl
          refine take_ (i := 10) (N := (some 182)) (v := ?_) (a' := ?_) #[true, true, true, true, true, true, false, true, true, true, true, false, false] rfl rfl (by kernel_rfl) (fun _ _ _ h => h) (Or.inl ⟨by rfl, ?_⟩) hHeld ?_ ?_
          rotate_left
          · rintro w' s0
            go_simp
            with_reducible rfl
          rotate_left
          · simp only [Act.put, List.setIfInBounds_toArray, List.set_cons_zero, List.set_cons_succ, i64_w, i32_w]
            rfl
          refine one_ (i := 6) (N := (some 178)) #[true, true, true, true, true, true, true, true, true, true, true, false, false] rfl rfl (by kernel_rfl) (by decide) (fun K hK => ?_)
          refine goes_ Try.func17 (by kernel_rfl) rfl #[.pointer (some ⟨L.p, 0, none⟩)] (by rfl) rfl rfl (by (try simp only [List.map_toArray, List.map_cons, List.map_nil]); first | done | rfl) ?_
          refine (Down_any H6.out).mono ?_
          rintro e w7 ⟨rfl, rfl⟩
          refine ⟨_, rfl, ?_⟩
          refine hK.out _ _ hHeld (fun hxx => ?_)
          clear hK K hxx
          refine norm_ (a' := ?_) ?_ ?_
          rotate_left
          · show Act.put _ (some 178) _ = _
            simp only [Act.put, List.setIfInBounds_toArray, List.set_cons_zero, List.set_cons_succ, i64_w, i32_w]
            rfl
          refine pure_ (i := 11) (N := (some 183)) (v := .bool false) (a' := ?_) #[true, true, true, true, true, true, true, true, true, true, true, true, false] rfl rfl (by kernel_rfl) (fun _ _ _ h => h) (Or.inl ⟨by rfl, (fun w' => by go_simp)⟩) ?_ ?_
          rotate_left
          · simp only [Act.put, List.setIfInBounds_toArray, List.set_cons_zero, List.set_cons_succ, i64_w, i32_w]
            rfl
          refine pure_ (i := 12) (N := (some 184)) (v := ?_) (a' := ?_) #[true, true, true, true, true, true, true, true, true, true, true, true, true] rfl rfl (by kernel_rfl) (fun _ _ _ h => h) (Or.inl ⟨by rfl, ?_⟩) ?_ ?_
          rotate_left
          · intro w'
            go_simp
            with_reducible rfl
          rotate_left
          · simp only [Act.put, List.setIfInBounds_toArray, List.set_cons_zero, List.set_cons_succ, i64_w, i32_w]
            rfl
          refine done_ (by kernel_rfl) ?_
          have HE : Fact (∃ D, D.n = n ∧ IsDisk w6 L D ∧ IsRef w6 R D) := ⟨_, HN2.out, H6.out, R6.out⟩
          clear hHeld H6 R6 HN2
          go_wp2_with fail
          exact ⟨⟨j + 1, by go_num, by omega, HE, B6⟩, by simp [intOf]; omega⟩
        · go_wp2_with fail
          clear o0 o1 o2 o3 o4 OA
          
          have c5 := AR.out.c5
          skip
          refine start_ (n := 13) (S := fun w' => w'.cell? ⟨R.p, 5, none⟩ = some (.bool D.down)) (ds := []) #[false, false, false, false, false, false, false, false, false, false, false, false, false] (by kernel_rfl) rfl rfl c5 (fun hHeld => ?_)
          have Hd := Fact.mk AD.out.drew
          have Rd := Fact.mk AR.out.drew
          have Bd : Fact (Below w.heap.size w wo.drew) := ⟨AB.out.drew⟩
          clear c5 AD AR AB
          generalize wo.drew = wd at *
          refine pure_ (i := 0) (N := (some 172)) (v := ?_) (a' := ?_) #[true, false, false, false, false, false, false, false, false, false, false, false, false] rfl rfl (by kernel_rfl) (fun _ _ _ h => h) (Or.inl ⟨by rfl, ?_⟩) ?_ ?_
          rotate_left
          · intro w'
            go_simp
            with_reducible rfl
          rotate_left
          · simp only [Act.put, List.setIfInBounds_toArray, List.set_cons_zero, List.set_cons_succ, i64_w, i32_w]
            rfl
          refine pure_ (i := 1) (N := (some 173)) (v := ?_) (a' := ?_) #[true, true, false, false, false, false, false, false, false, false, false, false, false] rfl rfl (by kernel_rfl) (fun _ _ _ h => h) (Or.inl ⟨by rfl, ?_⟩) ?_ ?_
          rotate_left
          · intro w'
            go_simp
            with_reducible rfl
          rotate_left
          · simp only [Act.put, List.setIfInBounds_toArray, List.set_cons_zero, List.set_cons_succ, i64_w, i32_w]
            rfl
          refine one_ (i := 2) (N := (some 174)) #[true, true, true, false, false, false, false, false, false, false, false, false, false] rfl rfl (by kernel_rfl) (by decide) (fun K hK => ?_)
          refine goes_ Try.func26 (by kernel_rfl) rfl #[.pointer (some ⟨L.p, 0, none⟩), .pointer (some ⟨R.p, 0, none⟩)] (by rfl) rfl rfl (by (try simp only [List.map_toArray, List.map_cons, List.map_nil]); first | done | rfl) ?_
          refine (pending_same Hd.out Rd.out).mono ?_
          rintro e w6 ⟨rfl, b6⟩
          have H6 := Fact.mk (Hd.out.below b6)
          have R6 := Fact.mk (Rd.out.below b6)
          have B6 := Fact.mk (next_new Bd.out b6)
          replace hHeld := R6.out.c5
          clear b6 Hd Rd Bd
          clear wd
          refine ⟨_, rfl, ?_⟩
          refine hK.out _ _ hHeld (fun hxx => ?_)
          clear hK K hxx
          refine norm_ (a' := ?_) ?_ ?_
          rotate_left
          · show Act.put _ (some 174) _ = _
            simp only [Act.put, List.setIfInBounds_toArray, List.set_cons_zero, List.set_cons_succ, i64_w, i32_w]
            rfl
          refine pure_ (i := 3) (N := (some 175)) (v := ?_) (a' := ?_) #[true, true, true, true, false, false, false, false, false, false, false, false, false] rfl rfl (by kernel_rfl) (fun _ _ _ h => h) (Or.inl ⟨by rfl, ?_⟩) ?_ ?_
          rotate_left
          · intro w'
            go_simp
            with_reducible rfl
          rotate_left
          · simp only [Act.put, List.setIfInBounds_toArray, List.set_cons_zero, List.set_cons_succ, i64_w, i32_w]
            rfl
          refine pure_ (i := 4) (N := (some 176)) (v := ?_) (a' := ?_) #[true, true, true, true, true, false, false, false, false, false, false, false, false] rfl rfl (by kernel_rfl) (fun _ _ _ h => h) (Or.inl ⟨by rfl, ?_⟩) ?_ ?_
          rotate_left
          · intro w'
            go_simp
            with_reducible rfl
          rotate_left
          · simp only [Act.put, List.setIfInBounds_toArray, List.set_cons_zero, List.set_cons_succ, i64_w, i32_w]
            rfl
          refine pure_ (i := 5) (N := (some 177)) (v := ?_) (a' := ?_) #[true, true, true, true, true, true, false, false, false, false, false, false, false] rfl rfl (by kernel_rfl) (fun _ _ _ h => h) (Or.inl ⟨by rfl, ?_⟩) ?_ ?_
          rotate_left
          · intro w'
            go_simp
            with_reducible rfl
          rotate_left
          · simp only [Act.put, List.setIfInBounds_toArray, List.set_cons_zero, List.set_cons_succ, i64_w, i32_w]
            rfl
          refine pure_ (i := 7) (N := (some 179)) (v := ?_) (a' := ?_) #[true, true, true, true, true, true, false, true, false, false, false, false, false] rfl rfl (by kernel_rfl) (fun _ _ _ h => h) (Or.inl ⟨by rfl, ?_⟩) ?_ ?_
          rotate_left
          · intro w'
            go_simp
            with_reducible rfl
          rotate_left
          · simp only [Act.put, List.setIfInBounds_toArray, List.set_cons_zero, List.set_cons_succ, i64_w, i32_w]
            rfl
          refine pure_ (i := 8) (N := (some 180)) (v := ?_) (a' := ?_) #[true, true, true, true, true, true, false, true, true, false, false, false, false] rfl rfl (by kernel_rfl) (fun _ _ _ h => h) (Or.inl ⟨by rfl, ?_⟩) ?_ ?_
          rotate_left
          · intro w'
            go_simp
            with_reducible rfl
          rotate_left
          · simp only [Act.put, List.setIfInBounds_toArray, List.set_cons_zero, List.set_cons_succ, i64_w, i32_w]
            rfl
          refine pure_ (i := 9) (N := (some 181)) (v := ?_) (a' := ?_) #[true, true, true, true, true, true, false, true, true, true, false, false, false] rfl rfl (by kernel_rfl) (fun _ _ _ h => h) (Or.inl ⟨by rfl, ?_⟩) ?_ ?_
          rotate_left
          · intro w'
            go_simp
            with_reducible rfl
          rotate_left
          · simp only [Act.put, List.setIfInBounds_toArray, List.set_cons_zero, List.set_cons_succ, i64_w, i32_w]
            rfl
          refine take_ (i := 10) (N := (some 182)) (v := ?_) (a' := ?_) #[true, true, true, true, true, true, false, true, true, true, true, false, false] rfl rfl (by kernel_rfl) (fun _ _ _ h => h) (Or.inl ⟨by rfl, ?_⟩) hHeld ?_ ?_
          rotate_left
          · rintro w' s0
            go_simp
            with_reducible rfl
          rotate_left
          · simp only [Act.put, List.setIfInBounds_toArray, List.set_cons_zero, List.set_cons_succ, i64_w, i32_w]
            rfl
          refine one_ (i := 6) (N := (some 178)) #[true, true, true, true, true, true, true, true, true, true, true, false, false] rfl rfl (by kernel_rfl) (by decide) (fun K hK => ?_)
          refine goes_ Try.func17 (by kernel_rfl) rfl #[.pointer (some ⟨L.p, 0, none⟩)] (by rfl) rfl rfl (by (try simp only [List.map_toArray, List.map_cons, List.map_nil]); first | done | rfl) ?_
          refine (Down_any H6.out).mono ?_
          rintro e w7 ⟨rfl, rfl⟩
          refine ⟨_, rfl, ?_⟩
          refine hK.out _ _ hHeld (fun hxx => ?_)
          clear hK K hxx
          refine norm_ (a' := ?_) ?_ ?_
          rotate_left
          · show Act.put _ (some 178) _ = _
            simp only [Act.put, List.setIfInBounds_toArray, List.set_cons_zero, List.set_cons_succ, i64_w, i32_w]
            rfl
          refine pure_ (i := 11) (N := (some 183)) (v := .bool false) (a' := ?_) #[true, true, true, true, true, true, true, true, true, true, true, true, false] rfl rfl (by kernel_rfl) (fun _ _ _ h => h) (Or.inl ⟨by rfl, (fun w' => by go_simp)⟩) ?_ ?_
          rotate_left
          · simp only [Act.put, List.setIfInBounds_toArray, List.set_cons_zero, List.set_cons_succ, i64_w, i32_w]
            rfl
          refine pure_ (i := 12) (N := (some 184)) (v := ?_) (a' := ?_) #[true, true, true, true, true, true, true, true, true, true, true, true, true] rfl rfl (by kernel_rfl) (fun _ _ _ h => h) (Or.inl ⟨by rfl, ?_⟩) ?_ ?_
          rotate_left
          · intro w'
            go_simp
            with_reducible rfl
          rotate_left
          · simp only [Act.put, List.setIfInBounds_toArray, List.set_cons_zero, List.set_cons_succ, i64_w, i32_w]
            rfl
          refine done_ (by kernel_rfl) ?_
          have HE : Fact (∃ D, D.n = n ∧ IsDisk w6 L D ∧ IsRef w6 R D) := ⟨_, HN.out, H6.out, R6.out⟩
          clear hHeld H6 R6 HN
          go_wp2_with fail
          exact ⟨⟨j + 1, by go_num, by omega, HE, B6⟩, by simp [intOf]; omega⟩
    · have he : j = l.length := by omega
      subst he
      have hlt2 : ¬ ((l.length : Int) < (l.length : Int)) := by omega
      go_wp2_with fail
      refine (ends_same HD.out HR.out S2.out HL.out HLR.out).mono ?_
      rintro e w4 ⟨rfl, b4⟩
      have B4 := Fact.mk b4
      clear b4
      go_wp2_with fail
      go_ret
      exact ⟨rfl, B4.out⟩
set_option maxRecDepth 100000 in
theorem plays_over (w : World) (n : Int) (A : Option Addr) (c m : Nat) (h : 80 < m ∨ m ≤ 80 ∧ 64 < n ∧ n ≤ 4096) :
    Calls Try.prog 8 #[.int .i64 n, .slice A m c] w fun e w' => e = .returned (.bool true) ∧ Below w.heap.size w w' := by
  rcases h with h | ⟨h1, h2, h3⟩
  · have h0 : (80 : Int) < (m : Int) := by omega
    clear h
    go_enter Try.func8, Try.ntmps8
    go_wp2_with fail
    refine (anchor_true w).mono ?_
    rintro e w1 ⟨rfl, b1⟩
    have B1 := Fact.mk b1
    clear b1
    go_wp2_with fail
    all_goals
      go_ret
      exact ⟨rfl, B1.out⟩
  · have h0 : (m : Int) ≤ 80 := by omega
    clear h1
    go_enter Try.func8, Try.ntmps8
    go_wp2_with fail
    refine (anchor_true w).mono ?_
    rintro e w1 ⟨rfl, b1⟩
    have B1 := Fact.mk b1
    clear b1
    go_wp2_with fail
    go_ret
    exact ⟨rfl, B1.out⟩
set_option maxRecDepth 100000 in
theorem plays_none (w : World) (n : Int) (A : Option Addr) (c m : Nat) (hm : m ≤ 80) (h : n < 1 ∨ 4096 < n) :
    Calls Try.prog 8 #[.int .i64 n, .slice A m c] w fun e w' => e = .returned (.bool true) ∧ Below w.heap.size w w' := by
  have h0 : (m : Int) ≤ 80 := by omega
  have HN := Fact.mk (fun W : World => New_bad (w := W) h)
  rcases h with h | h
  · have h4 : ¬ (64 < n) := by omega
    clear hm
    go_enter Try.func8, Try.ntmps8
    go_wp2_with fail
    refine (anchor_true w).mono ?_
    rintro e w1 ⟨rfl, b1⟩
    have B1 := Fact.mk b1
    clear b1
    go_wp2_with fail
    refine (HN.out w1).mono ?_
    rintro e w2 ⟨rfl, rfl⟩
    go_wp2_with fail
    all_goals
      go_ret
      exact ⟨rfl, B1.out⟩
  · have h4 : 64 < n := by omega
    clear hm
    go_enter Try.func8, Try.ntmps8
    go_wp2_with fail
    refine (anchor_true w).mono ?_
    rintro e w1 ⟨rfl, b1⟩
    have B1 := Fact.mk b1
    clear b1
    go_wp2_with fail
    refine (HN.out w1).mono ?_
    rintro e w2 ⟨rfl, rfl⟩
    go_wp2_with fail
    all_goals
      go_ret
      exact ⟨rfl, B1.out⟩
/-- The law DiskPlays. -/
theorem DiskPlays_true (w : World) (n : Int) (_ : (Lit.int .i64 n).wf = true) (A : Option Addr) (c : Nat) (l : List POp) (hr : Kd.C opK w A l.length l) (_ : l.length ≤ c)
    (hy : l.length ≤ 9223372036854775807 ∧ ∀ x ∈ l, (Lit.int .i64 x.1).wf = true ∧ (Lit.int .i64 x.2.1).wf = true ∧ (x.2.2.1.length ≤ 9223372036854775807 ∧ ∀ y ∈ x.2.2.1, (Lit.int .u8 y).wf = true) ∧ True ∧ x.2.2.2.2.length ≤ 9223372036854775807 ∧ ∀ y ∈ x.2.2.2.2, True) :
    Calls Try.prog 8 #[.int .i64 n, .slice A l.length c] w fun e w' => e = .returned (.bool true) ∧ Below w.heap.size w w' := by
  by_cases h1 : 80 < l.length ∨ l.length ≤ 80 ∧ 64 < n ∧ n ≤ 4096
  · exact plays_over w n A c _ h1
  · by_cases h2 : n < 1 ∨ 4096 < n
    · exact plays_none w n A c _ (by omega) h2
    · obtain ⟨k, rfl⟩ := Int.eq_ofNat_of_zero_le (show 0 ≤ n by omega)
      exact plays_in w k (by omega) (by omega) A c l hr (by omega) (fun x hx => by
        have h3 : x.2.1 ≤ 9223372036854775807 := ((Lit.wf_int_iff .i64 x.2.1).1 (hy.2 x hx).2.1).2
        omega)
end Go.Proofs.Ytldefibkaoboeaa.Dk
