/-
The law RedoApart: true.
-/
import Derived.Test.YtjpbpeiknnloeaaRdLBase2
namespace Go.Proofs.Ytjpbpeiknnloeaa.Dk
open Go.RowKit Go.Maps Go.Proofs.YtjpbpeiknnloeaaW.PrintWords Go.Proofs.YtjpbpeiknnloeaaW.PrintLast Go.Proofs.YtjpbpeiknnloeaaW.PrintMore
set_option linter.unusedVariables false
set_option linter.unusedSimpArgs false

theorem C_sub {w : World} {g n : Nat} {l : List Int} (h : ReadB w (some ⟨g, 0, none⟩) n l) {lo k : Nat} (hk : lo + k ≤ n) : ReadB w (some ⟨g, lo, none⟩) k ((l.drop lo).take k) := by
  refine ⟨by rw [List.length_take, List.length_drop]; have := h.1; omega, by have := h.2.1; omega, fun hp => ?_⟩
  obtain ⟨ad, e, hc⟩ := h.2.2 (by omega)
  injection e with e
  subst e
  refine ⟨_, rfl, fun j x hx => ?_⟩
  have hj : j < k := by
    have := (List.getElem?_eq_some_iff.1 hx).1
    rw [List.length_take] at this; omega
  have hx2 : l[lo + j]? = some x := by rw [List.getElem?_take_of_lt hj, List.getElem?_drop] at hx; exact hx
  obtain ⟨c, h1, h2, h3⟩ := hc (lo + j) x hx2
  refine ⟨c, h1, h2, fun i u hu => ?_⟩
  have h4 := h3 i u hu
  rw [Addr.add_mid] at h4 ⊢
  have e : 0 + ((lo + j) * (Kd.int .u8).sz + i) = lo + (j * (Kd.int .u8).sz + i) := by show 0 + ((lo + j) * 1 + i) = lo + (j * 1 + i); omega
  rw [e] at h4; exact h4
theorem datas_sub {f : Sect} {D : PD} (h : Rests 120 f D) {i : Nat} (hi : i < 20) : ((datas f).drop (64 * i)).take 64 = f (100 + i) := by
  have hf : ∀ i, i < 20 → (f (100 + i)).length = 64 := fun i _ => by rw [← h.data _ (by omega)]; exact h.good.full _
  apply List.ext_getElem?
  intro j
  by_cases hj : j < 64
  · rw [List.getElem?_take_of_lt hj, List.getElem?_drop]
    exact bytesTo_get hf hi hj
  · rw [List.getElem?_eq_none (by rw [List.length_take]; omega), List.getElem?_eq_none (by rw [hf i hi]; omega)]
/-- 'whole' of a disk at rest, its block told. -/
theorem whole_block {w w0 : World} {L : DL} {D : PD} {q : Nat} {f : Sect} (h : Jr w0 w L D q false) (hr : Rests 120 f D) (hd : D.down = false) :
    Calls Try.prog 13 #[.pointer (some ⟨q, 0, none⟩)] w fun en w' => ∃ g c, en = .returned (.slice (some ⟨g, 0, none⟩) 1280 c) ∧ 1280 ≤ c ∧ (∀ S : Nat → Prop, (∀ k, S k → k < w.heap.size) → Sees S w' ⟨some ⟨g, 0, none⟩, 1280, c⟩ (datas f)) ∧ Jr w0 w' L D q false ∧ Below w.heap.size w w' := by
  refine (whole_any h.disk h.redo (fun i => f (100 + i)) 20 (by rw [hr.size]; rfl) (fun i hi => hr.rread hd rfl hi)).mono ?_
  rintro en w1 ⟨v, rfl, hv, hb⟩
  obtain ⟨A, c, rfl, hc, -⟩ := Kd.R_reads hv
  have hl := datas_length hr
  rw [hl] at hv hc ⊢
  obtain ⟨g, c', e, -, -⟩ := (Kd.own_of_R hv).form (by rw [hl]; decide)
  injection e with e1 e2 e3
  subst e1
  exact ⟨g, c, rfl, hc, fun S hS => Sees.of_own hv (fun k hk hs => by have := hS k hs; omega), h.step hb, hb⟩
theorem hcv_of {W : World} {g c i : Nat} {l m : List Int} (h : ReadB W (some ⟨g, 0, none⟩) l.length l) (hl : l.length = 1280) (hs : (l.drop (64 * i)).take 64 = m) (hi : i < 20) : (convert 27 9 (.slice (some ⟨g, 64 * i, none⟩) 64 c)).run Try.prog W = .ok (.string (strOfNums m)) W := by
  have h1 := C_sub h (lo := 64 * i) (k := 64) (by omega)
  rw [hs] at h1
  exact Kd.C_string Try.underlying27 Try.underlying5 Try.underlying9 h1
theorem slice_sub (g c i : Nat) (hc : 1280 ≤ c) (hi : i < 20) : ∀ W : World, (Instr.sliceAt 27 (.slice (some ⟨g, 0, none⟩) 1280 c) (some (.int .i64 (64 * (i : Int)))) (some (.int .i64 (64 * (i : Int) + 64))) none).run Try.prog W = .ok (.slice (some ⟨g, 64 * i, none⟩) 64 (c - 64 * i)) W := by
  intro W
  have hu := Try.underlying27
  have h1 : (64 * (i : Int)).toNat = 64 * i := by omega
  have h2 : (64 * (i : Int) + 64).toNat = 64 * i + 64 := by omega
  have h3 : ¬ (c : Int) = 64 * (i : Int) := by omega
  go_simp
  rw [if_pos ⟨by omega, by omega⟩, if_pos ⟨by omega, by omega⟩, if_neg (by omega)]
def ownB (b : List Ch) (i j : Nat) : Bool := (b.take j).any fun c => c.1 == (i : Int)
theorem ownB_step {b : List Ch} {i j : Nat} {x : Ch} (hx : b[j]? = some x) : ownB b i (j + 1) = (ownB b i j || x.1 == (i : Int)) := by
  unfold ownB
  rw [List.take_add_one, hx, List.any_append]
  simp
/-- The disk that is opened behind a job that was cut off, or refused. -/
theorem apart_last {D : PD} {f : Sect} (h : Rests 120 f D) (b : List Ch) (keep : List Bool) {e : Int} {D3 : PD} {br : Bool} (hd : D.do_ false b = (e, D3, br)) : ∃ D' g, (D3.crash keep).open_ = (0, D') ∧ D'.down = false ∧ Rests 120 g D' ∧ (∀ i : Nat, (∀ c ∈ b, c.1 ≠ (i : Int)) → g (100 + i) = f (100 + i)) ∧ (D3.crash keep).Low ∧ D3.n = 120 := by
  rcases do_armed h b with hd2 | ⟨e2, D4, hd2, hj, hi, hr, -⟩
  · rw [hd2] at hd
    injection hd with _ hd
    injection hd with hd _
    subst hd
    have hc := Rests.of (h.mays.crash keep) (crash_settled D keep)
    exact ⟨_, f, open_rests hc (by decide) rfl, rfl, hc, fun _ _ => rfl, hc.lows, h.size⟩
  · rw [hd2] at hd
    injection hd with _ hd
    injection hd with hd _
    subst hd
    have ha : Again b f e2 D4 := ⟨hi, fun he => (hr he).mays⟩
    obtain ⟨D', g, h1, h2, h3, h4, -⟩ := (ha.crash keep).last hj (crash_settled _ _) (PD.Up.crash _ _)
    refine ⟨D', g, h1, h2, h3, fun i hc => ?_, (hi.crash keep).low (crash_settled _ _), hi.size⟩
    rcases h4 with rfl | rfl
    · rfl
    · exact wrote_other fun c hcc e => by
        obtain ⟨d, hd, h5, _⟩ := ats_mem hcc
        exact hc d hd (by omega)
set_option maxHeartbeats 8000000 in
set_option maxRecDepth 1000000 in
theorem RedoApart_true (w : World) (A : Option Addr) (ca : Nat) (a : List Ch) (hA : Kd.C inK w A a.length a) (hca : a.length ≤ ca) {pa : Prop} (_ : pa) (B : Option Addr) (cb : Nat) (b : List Ch) (hB : Kd.C inK w B b.length b) (hcb : b.length ≤ cb) {pb : Prop} (_ : pb)
    (arm : Int) (harm : (Lit.int .i64 arm).wf = true) (Z : Option Addr) (ck : Nat) (keep : List Bool) (hZ : ReadBool w Z keep.length keep) (hck : keep.length ≤ ck) {pk : Prop} (_ : pk) :
    Calls Try.prog 5 #[.slice A a.length ca, .slice B b.length cb, .int .i64 arm, .slice Z keep.length ck] w fun e w' => e = .returned (.bool true) ∧ Below w.heap.size w w' := by
  have harm2 := Fact.mk (wf_top harm)
  have HA := Fact.mk hA
  have HB := Fact.mk hB
  have HZ := Fact.mk hZ
  have hlb : b.length ≤ 9223372036854775807 := hB.2.1
  clear hA hB hZ harm
  go_enter Try.func5, Try.ntmps5
  go_wp2_with fail
  refine (anchor_true w).mono ?_
  rintro e w1 ⟨rfl, b1⟩
  have B1 := Fact.mk b1
  clear b1
  go_wp2_with fail
  have hs := small_any (w := w1.alloc (.cells #[.int .i64 0, .int .i64 0, .slice A a.length ca, .slice Z keep.length ck, .bool false, .slice none 0 0, .int .i64 0, .int .i64 0, .slice B b.length cb, .slice none 0 0, .bool false, .slice none 0 0] 29)) (S := fun _ => False) w1.heap.size [⟨0, 0, A, a, ca, Z, keep.length, ck, false, none, 0, 0⟩, ⟨0, 0, B, b, cb, none, 0, 0, false, none, 0, 0⟩] 2 2 (heap_alloc_new w1 _) (by simp) (by simp) (by omega) (by
    intro o ho
    have hst : Only (fun _ => False) w (w1.alloc (.cells #[.int .i64 0, .int .i64 0, .slice A a.length ca, .slice Z keep.length ck, .bool false, .slice none 0 0, .int .i64 0, .int .i64 0, .slice B b.length cb, .slice none 0 0, .bool false, .slice none 0 0] 29)) := Only.of_below (B1.out.alloc B1.out.size _) _
    simp only [List.mem_cons, List.not_mem_nil, or_false] at ho
    rcases ho with rfl | rfl
    · exact (args_of HA.out (fun _ h => h.elim)).step hst
    · exact (args_of HB.out (fun _ h => h.elim)).step hst)
  refine hs.mono ?_
  clear hs
  rintro e w2 ⟨bs, rfl, -, b2⟩
  have B2 : Fact (Below w.heap.size w w2) := ⟨next_new (B1.out.alloc B1.out.size _) b2⟩
  clear b2 B1
  cases bs with
  | false =>
    go_wp2_with fail
    go_ret
    exact ⟨rfl, B2.out⟩
  | true =>
    go_wp2_with fail
    refine (New_law w B2.out (n := 120) (by omega) (by omega)).mono ?_
    rintro e w3 ⟨L, rfl, h3⟩
    have H3 := Fact.mk h3
    clear h3 B2
    go_wp2_with fail
    refine (Open_first H3.out (by decide) new_rests.lows (open_rests new_rests (by decide) rfl)).mono ?_
    rintro e w4 ⟨q, rfl, h4⟩
    have H4 := Fact.mk h4
    clear h4 H3
    go_wp2_with fail
    have hcA : Chs (RS L q) w4 A a := (args_of HA.out H4.out.new).step (Only.of_below H4.out.below _)
    obtain ⟨e1, D1, f1, hd1, hr1, hu1, -⟩ := do_rests new_rests (PD.Up.new 120) a
    refine (Do_law H4.out A ca hcA hd1).mono ?_
    rintro e w5 ⟨rfl, h5, -⟩
    have H5 := Fact.mk h5
    have R1 := Fact.mk hr1
    have U1 := Fact.mk hu1.down
    clear h5 hcA hd1 hr1 hu1 H4
    go_wp2_with fail
    refine (whole_block H5.out R1.out U1.out).mono ?_
    rintro e w6 ⟨gw, cw, rfl, hcw, hw6, h6, b6⟩
    have H6 := Fact.mk h6
    have W6 := Fact.mk (hw6 (RS L q) H5.out.lt)
    clear hw6 h6 b6 H5
    go_wp2_with fail
    refine (Arm_law H6.out arm harm2.out).mono ?_
    rintro e w7 ⟨rfl, h7, o7⟩
    have H7 := Fact.mk h7
    have W7 := Fact.mk (W6.out.step o7)
    have R7 := Fact.mk (R1.out.arm harm2.out)
    clear h7 o7 H6 W6 U1
    generalize D1.arm arm = D2 at *
    go_wp2_with fail
    have hcB : Chs (RS L q) w7 B b := (args_of HB.out H7.out.new).step (Only.of_below H7.out.below _)
    generalize hd2 : D2.do_ false b = r2
    obtain ⟨e2, D3, br⟩ := r2
    refine (Do_law H7.out B cb hcB hd2).mono ?_
    rintro e w8 ⟨rfl, h8, o8⟩
    obtain ⟨D5, g, ho5, hd5, hr5, hg5, hl5, hn5⟩ := apart_last R7.out b keep hd2
    have H8 := Fact.mk h8
    have W8 := Fact.mk (W7.out.step o8)
    have HO5 := Fact.mk ho5
    have HD5 := Fact.mk hd5
    have HR5 := Fact.mk hr5
    have HG5 := Fact.mk hg5
    have HL5 := Fact.mk hl5
    have HN5 := Fact.mk hn5
    clear h8 o8 H7 W7 hcB hd2 ho5 hd5 hr5 hg5 hl5 hn5
    go_wp2_with fail
    refine (Crash_law H8.out Z ck keep (fun W ho => Kd.C_below HZ.out (next_below H8.out.below ho H8.out.at_.new))).mono ?_
    rintro e w9 ⟨rfl, h9, o9⟩
    have H9 := Fact.mk h9
    have W9 := Fact.mk (W8.out.step o9)
    clear h9 o9 H8 W8
    go_wp2_with fail
    refine (Open_law H9.out (by show 100 < D3.n; rw [HN5.out]; decide) HL5.out HO5.out).mono ?_
    rintro e w10 ⟨q', rfl, -, h10, o10⟩
    have H10 := Fact.mk h10
    have W10 := Fact.mk (W9.out.step o10)
    clear h10 o10 H9 W9
    go_wp2_with fail
    refine (whole_block H10.out HR5.out HD5.out).mono ?_
    rintro e w11 ⟨gn, cn, rfl, hcn, hw11, h11, b11⟩
    have N11 := Fact.mk (hw11 (fun _ => False) (fun _ h => h.elim))
    have W11 := Fact.mk ((W10.out.step (Only.of_below b11 (RS L q))).sub (S2 := fun _ => False) (fun _ h => h.elim))
    have B11 := Fact.mk h11.below
    clear hw11 h11 b11 H10 W10
    have I0 : Fact (Below w11.heap.size w11 w11) := ⟨Below.refl _ _⟩
    go_wp2_with fail
    go_loopw [74] (fun v74 wr => ∃ i : Nat, v74 = .int .i64 (i : Int) ∧ i ≤ 20 ∧ Fact (Below w11.heap.size w11 wr)) (fun v _ => 20 - (intOf v).toNat)
    case atStart => exact ⟨0, rfl, Nat.zero_le _, I0⟩
    case round =>
      obtain ⟨i, rfl, hi, R⟩ := hrel
      clear I0
      by_cases hlt : i < 20
      · have hlt2 : (i : Int) < 20 := by omega
        go_wp2_with fail
        have J0 : Fact (Value.bool false = .bool (ownB b i 0)) := ⟨rfl⟩
        go_loopw [17, 79] (fun v17 v79 wq => ∃ j : Nat, v17 = .bool (ownB b i j) ∧ v79 = .int .i64 (j : Int) ∧ j ≤ b.length ∧ Fact (Below w11.heap.size w11 wq)) (fun _ v _ => b.length - (intOf v).toNat)
        case atStart => exact ⟨0, J0.out, rfl, Nat.zero_le _, R⟩
        case round =>
          obtain ⟨j, rfl, rfl, hj, R2⟩ := hrel
          clear R J0
          by_cases hltj : j < b.length
          · have hltj2 : (j : Int) < (b.length : Int) := by omega
            have hx : b[j]? = some b[j] := List.getElem?_eq_getElem hltj
            have HOw := Fact.mk (ownB_step (i := i) hx)
            have hBr := B11.out.trans (R2.out.mono B11.out.size)
            obtain ⟨ad, As, cs, hA2, hs', hc⟩ := (args_of (S := fun _ => False) HB.out (fun _ h => h.elim)).at_ hx
            subst hA2
            obtain ⟨c0, c1⟩ := hc wr (Only.of_below hBr _)
            have hbase : w11.heap.size ≤ wr.heap.size := R2.out.size
            clear hs' hc hx hBr
            generalize b[j] = x at *
            have R3 : Fact (Below w11.heap.size w11 (wr.alloc (.cells #[.int .i64 x.1, .slice As x.2.length cs] 47))) := ⟨R2.out.alloc hbase _⟩
            cases how : ownB b i j with
            | true =>
              rw [how] at HOw
              go_wp2_with fail
              exact ⟨⟨j + 1, by rw [HOw.out]; rfl, by go_num, by omega, R3⟩, by simp [intOf]; omega⟩
            | false =>
              rw [how] at HOw
              go_wp2_with fail
              exact ⟨⟨j + 1, by rw [HOw.out]; simp, by go_num, by omega, R3⟩, by simp [intOf]; omega⟩
          · have he : j = b.length := by omega
            subst he
            have hltj2 : ¬ ((b.length : Int) < (b.length : Int)) := by omega
            cases how : ownB b i b.length with
            | true =>
              go_wp2_with fail
              skip
              refine start_ (n := 21) (S := fun _ => True) (ds := []) #[false, false, false, false, false, false, false, false, false, false, false, false, false, false, false, false, false, false, false, false, false] (by kernel_rfl) rfl rfl trivial (fun hHeld => ?_)
              have R4 : Fact (Below w11.heap.size w11 wr.drew) := ⟨R2.out.drew⟩
              clear R2
              generalize wr.drew = W2 at *
              refine pure_ (i := 0) (N := (some 91)) (v := ?_) (a' := ?_) #[true, false, false, false, false, false, false, false, false, false, false, false, false, false, false, false, false, false, false, false, false] rfl rfl (by kernel_rfl) (fun _ _ _ h => h) (Or.inl ⟨by rfl, ?_⟩) ?_ ?_
              rotate_left
              · intro w'
                go_simp
                with_reducible rfl
              rotate_left
              · simp only [Act.put, List.setIfInBounds_toArray, List.set_cons_zero, List.set_cons_succ, i64_w, i32_w]
                rfl
              refine pure_ (i := 1) (N := (some 92)) (v := ?_) (a' := ?_) #[true, true, false, false, false, false, false, false, false, false, false, false, false, false, false, false, false, false, false, false, false] rfl rfl (by kernel_rfl) (fun _ _ _ h => h) (Or.inl ⟨by rfl, ?_⟩) ?_ ?_
              rotate_left
              · intro w'
                go_simp
                with_reducible rfl
              rotate_left
              · simp only [Act.put, List.setIfInBounds_toArray, List.set_cons_zero, List.set_cons_succ, i64_w, i32_w]
                rfl
              refine pure_ (i := 2) (N := (some 93)) (v := ?_) (a' := ?_) #[true, true, true, false, false, false, false, false, false, false, false, false, false, false, false, false, false, false, false, false, false] rfl rfl (by kernel_rfl) (fun _ _ _ h => h) (Or.inl ⟨by rfl, ?_⟩) ?_ ?_
              rotate_left
              · intro w'
                go_simp
                with_reducible rfl
              rotate_left
              · simp only [Act.put, List.setIfInBounds_toArray, List.set_cons_zero, List.set_cons_succ, i64_w, i32_w]
                rfl
              refine pure_ (i := 3) (N := (some 94)) (v := undef) (a' := ?_) #[true, true, true, true, false, false, false, false, false, false, false, false, false, false, false, false, false, false, false, false, false] rfl rfl (by kernel_rfl) (fun _ _ _ h => h) (Or.inr ⟨by rfl, rfl⟩) ?_ ?_
              rotate_left
              · simp only [Act.put, List.setIfInBounds_toArray, List.set_cons_zero, List.set_cons_succ, i64_w, i32_w]
                rfl
              refine pure_ (i := 4) (N := (some 95)) (v := undef) (a' := ?_) #[true, true, true, true, true, false, false, false, false, false, false, false, false, false, false, false, false, false, false, false, false] rfl rfl (by kernel_rfl) (fun _ _ _ h => h) (Or.inr ⟨by rfl, rfl⟩) ?_ ?_
              rotate_left
              · simp only [Act.put, List.setIfInBounds_toArray, List.set_cons_zero, List.set_cons_succ, i64_w, i32_w]
                rfl
              refine pure_ (i := 5) (N := (some 96)) (v := undef) (a' := ?_) #[true, true, true, true, true, true, false, false, false, false, false, false, false, false, false, false, false, false, false, false, false] rfl rfl (by kernel_rfl) (fun _ _ _ h => h) (Or.inr ⟨by rfl, rfl⟩) ?_ ?_
              rotate_left
              · simp only [Act.put, List.setIfInBounds_toArray, List.set_cons_zero, List.set_cons_succ, i64_w, i32_w]
                rfl
              refine pure_ (i := 6) (N := (some 97)) (v := undef) (a' := ?_) #[true, true, true, true, true, true, true, false, false, false, false, false, false, false, false, false, false, false, false, false, false] rfl rfl (by kernel_rfl) (fun _ _ _ h => h) (Or.inr ⟨by rfl, rfl⟩) ?_ ?_
              rotate_left
              · simp only [Act.put, List.setIfInBounds_toArray, List.set_cons_zero, List.set_cons_succ, i64_w, i32_w]
                rfl
              refine pure_ (i := 7) (N := (some 98)) (v := undef) (a' := ?_) #[true, true, true, true, true, true, true, true, false, false, false, false, false, false, false, false, false, false, false, false, false] rfl rfl (by kernel_rfl) (fun _ _ _ h => h) (Or.inr ⟨by rfl, rfl⟩) ?_ ?_
              rotate_left
              · simp only [Act.put, List.setIfInBounds_toArray, List.set_cons_zero, List.set_cons_succ, i64_w, i32_w]
                rfl
              refine pure_ (i := 8) (N := (some 99)) (v := undef) (a' := ?_) #[true, true, true, true, true, true, true, true, true, false, false, false, false, false, false, false, false, false, false, false, false] rfl rfl (by kernel_rfl) (fun _ _ _ h => h) (Or.inr ⟨by rfl, rfl⟩) ?_ ?_
              rotate_left
              · simp only [Act.put, List.setIfInBounds_toArray, List.set_cons_zero, List.set_cons_succ, i64_w, i32_w]
                rfl
              refine pure_ (i := 9) (N := (some 100)) (v := undef) (a' := ?_) #[true, true, true, true, true, true, true, true, true, true, false, false, false, false, false, false, false, false, false, false, false] rfl rfl (by kernel_rfl) (fun _ _ _ h => h) (Or.inr ⟨by rfl, rfl⟩) ?_ ?_
              rotate_left
              · simp only [Act.put, List.setIfInBounds_toArray, List.set_cons_zero, List.set_cons_succ, i64_w, i32_w]
                rfl
              refine pure_ (i := 10) (N := (some 101)) (v := undef) (a' := ?_) #[true, true, true, true, true, true, true, true, true, true, true, false, false, false, false, false, false, false, false, false, false] rfl rfl (by kernel_rfl) (fun _ _ _ h => h) (Or.inr ⟨by rfl, rfl⟩) ?_ ?_
              rotate_left
              · simp only [Act.put, List.setIfInBounds_toArray, List.set_cons_zero, List.set_cons_succ, i64_w, i32_w]
                rfl
              refine pure_ (i := 11) (N := (some 102)) (v := undef) (a' := ?_) #[true, true, true, true, true, true, true, true, true, true, true, true, false, false, false, false, false, false, false, false, false] rfl rfl (by kernel_rfl) (fun _ _ _ h => h) (Or.inr ⟨by rfl, rfl⟩) ?_ ?_
              rotate_left
              · simp only [Act.put, List.setIfInBounds_toArray, List.set_cons_zero, List.set_cons_succ, i64_w, i32_w]
                rfl
              refine pure_ (i := 12) (N := (some 103)) (v := undef) (a' := ?_) #[true, true, true, true, true, true, true, true, true, true, true, true, true, false, false, false, false, false, false, false, false] rfl rfl (by kernel_rfl) (fun _ _ _ h => h) (Or.inr ⟨by rfl, rfl⟩) ?_ ?_
              rotate_left
              · simp only [Act.put, List.setIfInBounds_toArray, List.set_cons_zero, List.set_cons_succ, i64_w, i32_w]
                rfl
              refine pure_ (i := 13) (N := (some 104)) (v := undef) (a' := ?_) #[true, true, true, true, true, true, true, true, true, true, true, true, true, true, false, false, false, false, false, false, false] rfl rfl (by kernel_rfl) (fun _ _ _ h => h) (Or.inr ⟨by rfl, rfl⟩) ?_ ?_
              rotate_left
              · simp only [Act.put, List.setIfInBounds_toArray, List.set_cons_zero, List.set_cons_succ, i64_w, i32_w]
                rfl
              refine pure_ (i := 14) (N := (some 105)) (v := undef) (a' := ?_) #[true, true, true, true, true, true, true, true, true, true, true, true, true, true, true, false, false, false, false, false, false] rfl rfl (by kernel_rfl) (fun _ _ _ h => h) (Or.inr ⟨by rfl, rfl⟩) ?_ ?_
              rotate_left
              · simp only [Act.put, List.setIfInBounds_toArray, List.set_cons_zero, List.set_cons_succ, i64_w, i32_w]
                rfl
              refine pure_ (i := 15) (N := (some 106)) (v := undef) (a' := ?_) #[true, true, true, true, true, true, true, true, true, true, true, true, true, true, true, true, false, false, false, false, false] rfl rfl (by kernel_rfl) (fun _ _ _ h => h) (Or.inr ⟨by rfl, rfl⟩) ?_ ?_
              rotate_left
              · simp only [Act.put, List.setIfInBounds_toArray, List.set_cons_zero, List.set_cons_succ, i64_w, i32_w]
                rfl
              refine pure_ (i := 16) (N := (some 107)) (v := undef) (a' := ?_) #[true, true, true, true, true, true, true, true, true, true, true, true, true, true, true, true, true, false, false, false, false] rfl rfl (by kernel_rfl) (fun _ _ _ h => h) (Or.inr ⟨by rfl, rfl⟩) ?_ ?_
              rotate_left
              · simp only [Act.put, List.setIfInBounds_toArray, List.set_cons_zero, List.set_cons_succ, i64_w, i32_w]
                rfl
              refine pure_ (i := 17) (N := (some 108)) (v := undef) (a' := ?_) #[true, true, true, true, true, true, true, true, true, true, true, true, true, true, true, true, true, true, false, false, false] rfl rfl (by kernel_rfl) (fun _ _ _ h => h) (Or.inr ⟨by rfl, rfl⟩) ?_ ?_
              rotate_left
              · simp only [Act.put, List.setIfInBounds_toArray, List.set_cons_zero, List.set_cons_succ, i64_w, i32_w]
                rfl
              refine pure_ (i := 18) (N := (some 109)) (v := undef) (a' := ?_) #[true, true, true, true, true, true, true, true, true, true, true, true, true, true, true, true, true, true, true, false, false] rfl rfl (by kernel_rfl) (fun _ _ _ h => h) (Or.inr ⟨by rfl, rfl⟩) ?_ ?_
              rotate_left
              · simp only [Act.put, List.setIfInBounds_toArray, List.set_cons_zero, List.set_cons_succ, i64_w, i32_w]
                rfl
              refine pure_ (i := 19) (N := (some 110)) (v := undef) (a' := ?_) #[true, true, true, true, true, true, true, true, true, true, true, true, true, true, true, true, true, true, true, true, false] rfl rfl (by kernel_rfl) (fun _ _ _ h => h) (Or.inr ⟨by rfl, rfl⟩) ?_ ?_
              rotate_left
              · simp only [Act.put, List.setIfInBounds_toArray, List.set_cons_zero, List.set_cons_succ, i64_w, i32_w]
                rfl
              refine pure_ (i := 20) (N := (some 111)) (v := ?_) (a' := ?_) #[true, true, true, true, true, true, true, true, true, true, true, true, true, true, true, true, true, true, true, true, true] rfl rfl (by kernel_rfl) (fun _ _ _ h => h) (Or.inl ⟨by rfl, ?_⟩) ?_ ?_
              rotate_left
              · intro w'
                go_simp
                with_reducible rfl
              rotate_left
              · simp only [Act.put, List.setIfInBounds_toArray, List.set_cons_zero, List.set_cons_succ, i64_w, i32_w]
                rfl
              refine done_ (by kernel_rfl) ?_
              go_wp2_with fail
              exact ⟨⟨i + 1, by go_num, by omega, R4⟩, by simp [intOf]; omega⟩
            | false =>
              have hall : ∀ c ∈ b, c.1 ≠ (i : Int) := fun c hc e => by
                have : ownB b i b.length = true := by
                  unfold ownB
                  rw [List.take_length, List.any_eq_true]
                  exact ⟨c, hc, by simp [e]⟩
                rw [how] at this; cases this
              have hgi := HG5.out i hall
              clear hall
              go_wp2_with fail
              skip
              refine start_ (n := 21) (S := fun w' => Below w11.heap.size w11 w') (ds := []) #[false, false, false, false, false, false, false, false, false, false, false, false, false, false, false, false, false, false, false, false, false] (by kernel_rfl) rfl rfl R2.out.drew (fun hHeld => ?_)
              have R4 : Fact (Below w11.heap.size w11 wr.drew) := ⟨R2.out.drew⟩
              clear R2
              generalize wr.drew = W2 at *
              refine pure_ (i := 0) (N := (some 91)) (v := ?_) (a' := ?_) #[true, false, false, false, false, false, false, false, false, false, false, false, false, false, false, false, false, false, false, false, false] rfl rfl (by kernel_rfl) (fun _ _ _ h => h) (Or.inl ⟨by rfl, ?_⟩) ?_ ?_
              rotate_left
              · intro w'
                go_simp
                with_reducible rfl
              rotate_left
              · simp only [Act.put, List.setIfInBounds_toArray, List.set_cons_zero, List.set_cons_succ, i64_w, i32_w]
                rfl
              refine pure_ (i := 1) (N := (some 92)) (v := ?_) (a' := ?_) #[true, true, false, false, false, false, false, false, false, false, false, false, false, false, false, false, false, false, false, false, false] rfl rfl (by kernel_rfl) (fun _ _ _ h => h) (Or.inl ⟨by rfl, ?_⟩) ?_ ?_
              rotate_left
              · intro w'
                go_simp
                with_reducible rfl
              rotate_left
              · simp only [Act.put, List.setIfInBounds_toArray, List.set_cons_zero, List.set_cons_succ, i64_w, i32_w]
                rfl
              refine pure_ (i := 2) (N := (some 93)) (v := ?_) (a' := ?_) #[true, true, true, false, false, false, false, false, false, false, false, false, false, false, false, false, false, false, false, false, false] rfl rfl (by kernel_rfl) (fun _ _ _ h => h) (Or.inl ⟨by rfl, ?_⟩) ?_ ?_
              rotate_left
              · intro w'
                go_simp
                with_reducible rfl
              rotate_left
              · simp only [Act.put, List.setIfInBounds_toArray, List.set_cons_zero, List.set_cons_succ, i64_w, i32_w]
                rfl
              refine pure_ (i := 3) (N := (some 94)) (v := ?_) (a' := ?_) #[true, true, true, true, false, false, false, false, false, false, false, false, false, false, false, false, false, false, false, false, false] rfl rfl (by kernel_rfl) (fun _ _ _ h => h) (Or.inl ⟨by rfl, ?_⟩) ?_ ?_
              rotate_left
              · intro w'
                go_simp
                with_reducible rfl
              rotate_left
              · simp only [Act.put, List.setIfInBounds_toArray, List.set_cons_zero, List.set_cons_succ, i64_w, i32_w]
                rfl
              refine pure_ (i := 4) (N := (some 95)) (v := ?_) (a' := ?_) #[true, true, true, true, true, false, false, false, false, false, false, false, false, false, false, false, false, false, false, false, false] rfl rfl (by kernel_rfl) (fun _ _ _ h => h) (Or.inl ⟨by rfl, ?_⟩) ?_ ?_
              rotate_left
              · intro w'
                go_simp
                with_reducible rfl
              rotate_left
              · simp only [Act.put, List.setIfInBounds_toArray, List.set_cons_zero, List.set_cons_succ, i64_w, i32_w]
                rfl
              refine pure_ (i := 5) (N := (some 96)) (v := .int .i64 (64 * (i : Int))) (a' := ?_) #[true, true, true, true, true, true, false, false, false, false, false, false, false, false, false, false, false, false, false, false, false] rfl rfl (by kernel_rfl) (fun _ _ _ h => h) (Or.inl ⟨by rfl, (fun w' => by go_simp; try exact IntWalk.i64_in _ (by omega))⟩) ?_ ?_
              rotate_left
              · simp only [Act.put, List.setIfInBounds_toArray, List.set_cons_zero, List.set_cons_succ, i64_w, i32_w]
                rfl
              refine pure_ (i := 6) (N := (some 97)) (v := ?_) (a' := ?_) #[true, true, true, true, true, true, true, false, false, false, false, false, false, false, false, false, false, false, false, false, false] rfl rfl (by kernel_rfl) (fun _ _ _ h => h) (Or.inl ⟨by rfl, ?_⟩) ?_ ?_
              rotate_left
              · intro w'
                go_simp
                with_reducible rfl
              rotate_left
              · simp only [Act.put, List.setIfInBounds_toArray, List.set_cons_zero, List.set_cons_succ, i64_w, i32_w]
                rfl
              refine pure_ (i := 7) (N := (some 98)) (v := .int .i64 (64 * (i : Int))) (a' := ?_) #[true, true, true, true, true, true, true, true, false, false, false, false, false, false, false, false, false, false, false, false, false] rfl rfl (by kernel_rfl) (fun _ _ _ h => h) (Or.inl ⟨by rfl, (fun w' => by go_simp; try exact IntWalk.i64_in _ (by omega))⟩) ?_ ?_
              rotate_left
              · simp only [Act.put, List.setIfInBounds_toArray, List.set_cons_zero, List.set_cons_succ, i64_w, i32_w]
                rfl
              refine pure_ (i := 8) (N := (some 99)) (v := .int .i64 (64 * (i : Int) + 64)) (a' := ?_) #[true, true, true, true, true, true, true, true, true, false, false, false, false, false, false, false, false, false, false, false, false] rfl rfl (by kernel_rfl) (fun _ _ _ h => h) (Or.inl ⟨by rfl, (fun w' => by go_simp; try exact IntWalk.i64_in _ (by omega))⟩) ?_ ?_
              rotate_left
              · simp only [Act.put, List.setIfInBounds_toArray, List.set_cons_zero, List.set_cons_succ, i64_w, i32_w]
                rfl
              refine pure_ (i := 9) (N := (some 100)) (v := .slice (some ⟨gn, 64 * i, none⟩) 64 (cn - 64 * i)) (a' := ?_) #[true, true, true, true, true, true, true, true, true, true, false, false, false, false, false, false, false, false, false, false, false] rfl rfl (by kernel_rfl) (fun _ _ _ h => h) (Or.inl ⟨by rfl, exec_slice rfl (slice_sub gn cn i hcn hlt)⟩) ?_ ?_
              rotate_left
              · simp only [Act.put, List.setIfInBounds_toArray, List.set_cons_zero, List.set_cons_succ, i64_w, i32_w]
                rfl
              refine take_ (i := 10) (N := (some 101)) (v := .string (strOfNums (f1 (100 + i)))) (a' := ?_) #[true, true, true, true, true, true, true, true, true, true, true, false, false, false, false, false, false, false, false, false, false] rfl rfl (by kernel_rfl) (fun _ _ _ h => h) (Or.inl ⟨by rfl, (fun w' s0 => by have hcv := hcv_of (c := cn - 64 * i) (N11.out.reads w' (Only.of_below s0 _)) (datas_length HR5.out) (by rw [datas_sub HR5.out hlt, hgi]) hlt; go_simp)⟩) hHeld ?_ ?_
              rotate_left
              · simp only [Act.put, List.setIfInBounds_toArray, List.set_cons_zero, List.set_cons_succ, i64_w, i32_w]
                rfl
              refine pure_ (i := 11) (N := (some 102)) (v := ?_) (a' := ?_) #[true, true, true, true, true, true, true, true, true, true, true, true, false, false, false, false, false, false, false, false, false] rfl rfl (by kernel_rfl) (fun _ _ _ h => h) (Or.inl ⟨by rfl, ?_⟩) ?_ ?_
              rotate_left
              · intro w'
                go_simp
                with_reducible rfl
              rotate_left
              · simp only [Act.put, List.setIfInBounds_toArray, List.set_cons_zero, List.set_cons_succ, i64_w, i32_w]
                rfl
              refine pure_ (i := 12) (N := (some 103)) (v := ?_) (a' := ?_) #[true, true, true, true, true, true, true, true, true, true, true, true, true, false, false, false, false, false, false, false, false] rfl rfl (by kernel_rfl) (fun _ _ _ h => h) (Or.inl ⟨by rfl, ?_⟩) ?_ ?_
              rotate_left
              · intro w'
                go_simp
                with_reducible rfl
              rotate_left
              · simp only [Act.put, List.setIfInBounds_toArray, List.set_cons_zero, List.set_cons_succ, i64_w, i32_w]
                rfl
              refine pure_ (i := 13) (N := (some 104)) (v := .int .i64 (64 * (i : Int))) (a' := ?_) #[true, true, true, true, true, true, true, true, true, true, true, true, true, true, false, false, false, false, false, false, false] rfl rfl (by kernel_rfl) (fun _ _ _ h => h) (Or.inl ⟨by rfl, (fun w' => by go_simp; try exact IntWalk.i64_in _ (by omega))⟩) ?_ ?_
              rotate_left
              · simp only [Act.put, List.setIfInBounds_toArray, List.set_cons_zero, List.set_cons_succ, i64_w, i32_w]
                rfl
              refine pure_ (i := 14) (N := (some 105)) (v := ?_) (a' := ?_) #[true, true, true, true, true, true, true, true, true, true, true, true, true, true, true, false, false, false, false, false, false] rfl rfl (by kernel_rfl) (fun _ _ _ h => h) (Or.inl ⟨by rfl, ?_⟩) ?_ ?_
              rotate_left
              · intro w'
                go_simp
                with_reducible rfl
              rotate_left
              · simp only [Act.put, List.setIfInBounds_toArray, List.set_cons_zero, List.set_cons_succ, i64_w, i32_w]
                rfl
              refine pure_ (i := 15) (N := (some 106)) (v := .int .i64 (64 * (i : Int))) (a' := ?_) #[true, true, true, true, true, true, true, true, true, true, true, true, true, true, true, true, false, false, false, false, false] rfl rfl (by kernel_rfl) (fun _ _ _ h => h) (Or.inl ⟨by rfl, (fun w' => by go_simp; try exact IntWalk.i64_in _ (by omega))⟩) ?_ ?_
              rotate_left
              · simp only [Act.put, List.setIfInBounds_toArray, List.set_cons_zero, List.set_cons_succ, i64_w, i32_w]
                rfl
              refine pure_ (i := 16) (N := (some 107)) (v := .int .i64 (64 * (i : Int) + 64)) (a' := ?_) #[true, true, true, true, true, true, true, true, true, true, true, true, true, true, true, true, true, false, false, false, false] rfl rfl (by kernel_rfl) (fun _ _ _ h => h) (Or.inl ⟨by rfl, (fun w' => by go_simp; try exact IntWalk.i64_in _ (by omega))⟩) ?_ ?_
              rotate_left
              · simp only [Act.put, List.setIfInBounds_toArray, List.set_cons_zero, List.set_cons_succ, i64_w, i32_w]
                rfl
              refine pure_ (i := 17) (N := (some 108)) (v := .slice (some ⟨gw, 64 * i, none⟩) 64 (cw - 64 * i)) (a' := ?_) #[true, true, true, true, true, true, true, true, true, true, true, true, true, true, true, true, true, true, false, false, false] rfl rfl (by kernel_rfl) (fun _ _ _ h => h) (Or.inl ⟨by rfl, exec_slice rfl (slice_sub gw cw i hcw hlt)⟩) ?_ ?_
              rotate_left
              · simp only [Act.put, List.setIfInBounds_toArray, List.set_cons_zero, List.set_cons_succ, i64_w, i32_w]
                rfl
              refine take_ (i := 18) (N := (some 109)) (v := .string (strOfNums (f1 (100 + i)))) (a' := ?_) #[true, true, true, true, true, true, true, true, true, true, true, true, true, true, true, true, true, true, true, false, false] rfl rfl (by kernel_rfl) (fun _ _ _ h => h) (Or.inl ⟨by rfl, (fun w' s0 => by have hcv := hcv_of (c := cw - 64 * i) (W11.out.reads w' (Only.of_below s0 _)) (datas_length R1.out) (datas_sub R1.out hlt) hlt; go_simp)⟩) hHeld ?_ ?_
              rotate_left
              · simp only [Act.put, List.setIfInBounds_toArray, List.set_cons_zero, List.set_cons_succ, i64_w, i32_w]
                rfl
              refine pure_ (i := 19) (N := (some 110)) (v := ?_) (a' := ?_) #[true, true, true, true, true, true, true, true, true, true, true, true, true, true, true, true, true, true, true, true, false] rfl rfl (by kernel_rfl) (fun _ _ _ h => h) (Or.inl ⟨by rfl, ?_⟩) ?_ ?_
              rotate_left
              · intro w'
                go_simp
                with_reducible rfl
              rotate_left
              · simp only [Act.put, List.setIfInBounds_toArray, List.set_cons_zero, List.set_cons_succ, i64_w, i32_w]
                rfl
              refine pure_ (i := 20) (N := (some 111)) (v := ?_) (a' := ?_) #[true, true, true, true, true, true, true, true, true, true, true, true, true, true, true, true, true, true, true, true, true] rfl rfl (by kernel_rfl) (fun _ _ _ h => h) (Or.inl ⟨by rfl, ?_⟩) ?_ ?_
              rotate_left
              · intro w'
                go_simp
                with_reducible rfl
              rotate_left
              · simp only [Act.put, List.setIfInBounds_toArray, List.set_cons_zero, List.set_cons_succ, i64_w, i32_w]
                rfl
              refine done_ (by kernel_rfl) ?_
              go_wp2_with fail
              exact ⟨⟨i + 1, by go_num, by omega, R4⟩, by simp [intOf]; omega⟩
      · have he : i = 20 := by omega
        subst he
        have hlt2 : ¬ ((20 : Int) < 20) := by omega
        go_wp2_with fail
        go_ret
        exact ⟨rfl, B11.out.trans (R.out.mono B11.out.size)⟩
end Go.Proofs.Ytjpbpeiknnloeaa.Dk
