/-
The law SlotsAtomic: true.
-/
import Derived.Test.YtdkijmikafmgaaaXG
namespace Go.Proofs.Ytdkijmikafmgaaa.Dk
open Go.RowKit Go.Maps Go.Proofs.YtdkijmikafmgaaaW.PrintWords Go.Proofs.YtdkijmikafmgaaaW.PrintLast Go.Proofs.YtdkijmikafmgaaaW.PrintMore
set_option linter.unusedVariables false
set_option linter.unusedSimpArgs false

set_option maxHeartbeats 8000000 in
set_option maxRecDepth 1000000 in
theorem SlotsAtomic_true (w : World) (A : Option Addr) (ca : Nat) (a : List Ch) (hA : Kd.C inK w A a.length a) (hca : a.length ≤ ca) {pa : Prop} (_ : pa) (B : Option Addr) (cb : Nat) (b : List Ch) (hB : Kd.C inK w B b.length b) (hcb : b.length ≤ cb) {pb : Prop} (_ : pb)
    (arm : Int) (harm : (Lit.int .i64 arm).wf = true) (Z : Option Addr) (ck : Nat) (keep : List Bool) (hZ : ReadBool w Z keep.length keep) (hck : keep.length ≤ ck) {pk : Prop} (_ : pk) :
    Calls Try.prog 6 #[.slice A a.length ca, .slice B b.length cb, .int .i64 arm, .slice Z keep.length ck] w fun e w' => e = .returned (.bool true) ∧ Below w.heap.size w w' := by
  have harm2 : arm < 9223372036854775808 := wf_top harm
  have HA := Fact.mk hA
  have HB := Fact.mk hB
  have HZ := Fact.mk hZ
  replace harm2 := Fact.mk harm2
  clear hA hB hZ harm
  go_enter Try.func6, Try.ntmps6
  go_wp2_with fail
  refine (anchor_true w).mono ?_
  rintro e w1 ⟨rfl, b1⟩
  have B1 := Fact.mk b1
  clear b1
  go_wp2_with fail
  have hs := small_any (w := w1.alloc (.cells #[.int .i64 0, .int .i64 0, .slice A a.length ca, .slice Z keep.length ck, .bool false, .int .i64 0, .int .i64 0, .slice B b.length cb, .slice none 0 0, .bool false] 33)) (S := fun _ => False) w1.heap.size [⟨0, 0, A, a, ca, Z, keep.length, ck, false⟩, ⟨0, 0, B, b, cb, none, 0, 0, false⟩] 2 2 (heap_alloc_new w1 _) (by simp) (by simp) (by omega) (by
    intro o ho
    have hst : Only (fun _ => False) w (w1.alloc (.cells #[.int .i64 0, .int .i64 0, .slice A a.length ca, .slice Z keep.length ck, .bool false, .int .i64 0, .int .i64 0, .slice B b.length cb, .slice none 0 0, .bool false] 33)) := Only.of_below (B1.out.alloc B1.out.size _) _
    simp only [List.mem_cons, List.not_mem_nil, or_false] at ho
    rcases ho with rfl | rfl
    · exact (Chs.of_read HA.out (fun _ h => h.elim)).step hst
    · exact (Chs.of_read HB.out (fun _ h => h.elim)).step hst)
  refine hs.mono ?_
  clear hs
  rintro e w2 ⟨bs, rfl, h20, b2⟩
  have B2 : Fact (Below w.heap.size w w2) := ⟨next_new (B1.out.alloc B1.out.size _) b2⟩
  clear b2 B1
  cases bs with
  | false =>
    go_wp2_with fail
    go_ret
    exact ⟨rfl, B2.out⟩
  | true =>
    have HA20 : Fact (a.length ≤ 20) := ⟨h20 rfl _ List.mem_cons_self⟩
    have HB20 : Fact (b.length ≤ 20) := ⟨h20 rfl _ (List.mem_cons_of_mem _ List.mem_cons_self)⟩
    clear h20
    go_wp2_with fail
    refine (made_law w B2.out (m := 3) (by decide) (by decide)).mono ?_
    rintro e w3 ⟨L, q, s, rfl, h3⟩
    have H3 := Fact.mk h3
    clear h3 B2
    go_wp2_with fail
    have hcA : Chs (RS L q) w3 A a := (Chs.of_read HA.out H3.out.jr.new).step (Only.of_below H3.out.jr.below _)
    obtain ⟨e1, D1, f1, hd1, hr1, hu1, hcase⟩ := sdo_rests (new_rests (m := 3) (by decide)) (PD.Up.new _) (m := 3) rfl (by decide) (by decide) a
    refine (SDo_law H3.out (m := 3) (by rfl) A ca hcA (by have := HA20.out; omega) hd1).mono ?_
    rintro e w4 ⟨rfl, h4, -⟩
    have H4 := Fact.mk h4
    clear h4 H3 hcA hd1
    rcases hcase with ⟨he1, rfl, rfl⟩ | ⟨rfl, -, hsl1⟩
    · clear hr1 hu1
      rcases he1 with rfl | rfl
      all_goals
        go_wp2_with fail
        go_ret
        exact ⟨rfl, H4.out.jr.below⟩
    · have R4 := Fact.mk hr1
      have U4 := Fact.mk hu1.down
      obtain ⟨recs, hrecs⟩ : ∃ r : Nat → List Int, r = fun i => recAt i [] a := ⟨_, rfl⟩
      have HI : Fact (∀ i, SlotIs f1 i (recs i)) := ⟨fun i => by rw [hrecs]; exact hsl1 i [] (SlotIs.none i)⟩
      clear hr1 hu1 hsl1 hrecs
      go_wp2_with fail
      have HRS : Fact (∀ k, RS L q k → k < w4.heap.size) := ⟨H4.out.jr.lt⟩
      have HSS : Fact (s < w4.heap.size) := ⟨H4.out.slots.lt⟩
      have HGm : Fact (w.heap.size ≤ w4.heap.size) := ⟨H4.out.jr.below.size⟩
      have ha1 : Arr (w4.alloc (.cells #[.string { data := #[] }, .string { data := #[] }, .string { data := #[] }] 45)) w4.heap.size (fill recs 0) := ⟨_, heap_alloc_new w4 _⟩
      have ha2 : Arr ((w4.alloc (.cells #[.string { data := #[] }, .string { data := #[] }, .string { data := #[] }] 45)).alloc (.cells #[.string { data := #[] }, .string { data := #[] }, .string { data := #[] }] 45)) (w4.heap.size + 1) (fill recs 0) := ⟨_, by have := heap_alloc_new (w4.alloc (.cells #[.string { data := #[] }, .string { data := #[] }, .string { data := #[] }] 45)) (.cells #[.string { data := #[] }, .string { data := #[] }, .string { data := #[] }] 45); rwa [show (w4.alloc (.cells #[.string { data := #[] }, .string { data := #[] }, .string { data := #[] }] 45)).heap.size = w4.heap.size + 1 from by simp] at this⟩
      have I0 : Fact (Sl w ((w4.alloc (.cells #[.string { data := #[] }, .string { data := #[] }, .string { data := #[] }] 45)).alloc (.cells #[.string { data := #[] }, .string { data := #[] }, .string { data := #[] }] 45)) L D1 q s false ∧ Arr ((w4.alloc (.cells #[.string { data := #[] }, .string { data := #[] }, .string { data := #[] }] 45)).alloc (.cells #[.string { data := #[] }, .string { data := #[] }, .string { data := #[] }] 45)) w4.heap.size (fill recs 0) ∧ Arr ((w4.alloc (.cells #[.string { data := #[] }, .string { data := #[] }, .string { data := #[] }] 45)).alloc (.cells #[.string { data := #[] }, .string { data := #[] }, .string { data := #[] }] 45)) (w4.heap.size + 1) (fill recs 0)) := ⟨H4.out.step (((Below.refl _ _).alloc (Nat.le_refl _) _).alloc (by simp) _), ha1.below ((Below.refl _ _).alloc (Nat.le_refl _) _), ha2⟩
      clear ha1 ha2 H4
      generalize w4.heap.size = g at *
      go_loopw [45] (fun v45 wr => ∃ i : Nat, v45 = .int .i64 (i : Int) ∧ i ≤ 3 ∧ Fact (Sl w wr L D1 q s false ∧ Arr wr g (fill recs i) ∧ Arr wr (g + 1) (fill recs i))) (fun v _ => 3 - (intOf v).toNat)
      case atStart => exact ⟨0, rfl, Nat.zero_le _, I0⟩
      case round =>
        obtain ⟨i, rfl, hi, R⟩ := hrel
        clear I0
        have H5 := Fact.mk R.out.1
        have P5 := Fact.mk R.out.2.1
        have Q5 := Fact.mk R.out.2.2
        clear R
        by_cases hlt : i < 3
        · have hlt2 : (i : Int) < 3 := by omega
          go_wp2_with fail
          refine (Get_law H5.out R4.out U4.out (m := 3) rfl (i := i) rfl (HI.out i) hlt).mono ?_
          rintro e w6 ⟨hg, h6, b6⟩
          obtain ⟨v, x, rfl, hcv⟩ := Get_str hg
          have H6 := Fact.mk h6
          have P6 := Fact.mk (P5.out.below b6)
          have Q6 := Fact.mk (Q5.out.below b6)
          have HCv : Fact (∀ W, Only (fun k => k = g ∨ k = g + 1) w6 W → (convert 37 9 v).run Try.prog W = .ok (.string (strOfNums (recs i))) W) := ⟨fun W ho => hcv _ W (fun k hk => by have := P5.out.lt; have := Q5.out.lt; omega) ho⟩
          clear hg h6 b6 hcv H5 P5 Q5
          obtain ⟨s0, hs0⟩ : ∃ s0, strOfNums (recs i) = s0 := ⟨_, rfl⟩
          rw [hs0] at HCv
          replace hs0 := Fact.mk hs0
          go_wp2_with fail
          skip
          refine start_ (n := 10) (S := fun w' => Only (fun k => k = g ∨ k = g + 1) w6 w') (ds := []) #[false, false, false, false, false, false, false, false, false, false] (by kernel_rfl) rfl rfl ((Only.refl _ _).drew) (fun hHeld => ?_)
          have P7 := Fact.mk (P6.out.below ((Below.refl _ _).drew))
          have Q7 := Fact.mk (Q6.out.below ((Below.refl _ _).drew))
          clear P6 Q6
          generalize w6.drew = W7 at *
          refine pure_ (i := 0) (N := (some 54)) (v := ?_) (a' := ?_) #[true, false, false, false, false, false, false, false, false, false] rfl rfl (by kernel_rfl) (fun _ _ _ h => h) (Or.inl ⟨by rfl, ?_⟩) ?_ ?_
          rotate_left
          · intro w'
            go_simp
            with_reducible rfl
          rotate_left
          · simp only [Act.put, List.setIfInBounds_toArray, List.set_cons_zero, List.set_cons_succ, i64_w, i32_w]
            rfl
          refine pure_ (i := 1) (N := (some 55)) (v := ?_) (a' := ?_) #[true, true, false, false, false, false, false, false, false, false] rfl rfl (by kernel_rfl) (fun _ _ _ h => h) (Or.inl ⟨by rfl, ?_⟩) ?_ ?_
          rotate_left
          · intro w'
            go_simp
            with_reducible rfl
          rotate_left
          · simp only [Act.put, List.setIfInBounds_toArray, List.set_cons_zero, List.set_cons_succ, i64_w, i32_w]
            rfl
          refine pure_ (i := 2) (N := (some 56)) (v := ?_) (a' := ?_) #[true, true, true, false, false, false, false, false, false, false] rfl rfl (by kernel_rfl) (fun _ _ _ h => h) (Or.inl ⟨by rfl, ?_⟩) ?_ ?_
          rotate_left
          · intro w'
            go_simp
            with_reducible rfl
          rotate_left
          · simp only [Act.put, List.setIfInBounds_toArray, List.set_cons_zero, List.set_cons_succ, i64_w, i32_w]
            rfl
          refine pure_ (i := 4) (N := (some 58)) (v := ?_) (a' := ?_) #[true, true, true, false, true, false, false, false, false, false] rfl rfl (by kernel_rfl) (fun _ _ _ h => h) (Or.inl ⟨by rfl, ?_⟩) ?_ ?_
          rotate_left
          · intro w'
            go_simp
            with_reducible rfl
          rotate_left
          · simp only [Act.put, List.setIfInBounds_toArray, List.set_cons_zero, List.set_cons_succ, i64_w, i32_w]
            rfl
          refine take_ (i := 3) (N := (some 57)) (v := .string s0) (a' := ?_) #[true, true, true, true, true, false, false, false, false, false] rfl rfl (by kernel_rfl) (fun _ _ _ h => h) (Or.inl ⟨by rfl, (fun w' h => by have hcv := HCv.out w' h; go_simp)⟩) hHeld ?_ ?_
          rotate_left
          · simp only [Act.put, List.setIfInBounds_toArray, List.set_cons_zero, List.set_cons_succ, i64_w, i32_w]
            rfl
          refine take_ (i := 5) (N := (some 59)) (v := .string s0) (a' := ?_) #[true, true, true, true, true, true, false, false, false, false] rfl rfl (by kernel_rfl) (fun _ _ _ h => h) (Or.inl ⟨by rfl, (fun w' h => by have hcv := HCv.out w' h; go_simp)⟩) hHeld ?_ ?_
          rotate_left
          · simp only [Act.put, List.setIfInBounds_toArray, List.set_cons_zero, List.set_cons_succ, i64_w, i32_w]
            rfl
          refine pure_ (i := 6) (N := (some 60)) (v := ?_) (a' := ?_) #[true, true, true, true, true, true, true, false, false, false] rfl rfl (by kernel_rfl) (fun _ _ _ h => h) (Or.inl ⟨by rfl, ?_⟩) ?_ ?_
          rotate_left
          · intro w'
            go_simp
            with_reducible rfl
          rotate_left
          · simp only [Act.put, List.setIfInBounds_toArray, List.set_cons_zero, List.set_cons_succ, i64_w, i32_w]
            rfl
          refine one_ (i := 7) (N := none) #[true, true, true, true, true, true, true, true, false, false] rfl rfl (by kernel_rfl) (by decide) (fun K hK => ?_)
          refine skip_ (w1 := W7.setCell ⟨g, i, none⟩ (.string s0)) (by rfl) rfl (by have c := P7.out.cell hlt; have cf := P7.out.f i; go_simp) ?_
          refine hK.out _ _ (hHeld.trans (Only.setCell (S := fun k => k = g ∨ k = g + 1) W7 (.inl rfl) _)) (fun hxx => ?_)
          clear hK K
          replace hHeld := hxx
          clear hxx
          have hup : upd (fill recs i) i s0 = fill recs (i + 1) := by rw [← hs0.out, fill_step]
          have P8 : Fact (Arr (W7.setCell ⟨g, i, none⟩ (.string s0)) g (fill recs (i + 1))) := ⟨by have := P7.out.set hlt s0; rwa [hup] at this⟩
          have Q8 : Fact (Arr (W7.setCell ⟨g, i, none⟩ (.string s0)) (g + 1) (fill recs i)) := ⟨Q7.out.only (Only.setCell (S := fun k => k = g) W7 rfl _) (by omega)⟩
          clear P7 Q7
          generalize W7.setCell ⟨g, i, none⟩ (.string s0) = W8 at *
          refine pure_ (i := 8) (N := (some 61)) (v := ?_) (a' := ?_) #[true, true, true, true, true, true, true, true, true, false] rfl rfl (by kernel_rfl) (fun _ _ _ h => h) (Or.inl ⟨by rfl, ?_⟩) ?_ ?_
          rotate_left
          · intro w'
            go_simp
            with_reducible rfl
          rotate_left
          · simp only [Act.put, List.setIfInBounds_toArray, List.set_cons_zero, List.set_cons_succ, i64_w, i32_w]
            rfl
          refine one_ (i := 9) (N := none) #[true, true, true, true, true, true, true, true, true, true] rfl rfl (by kernel_rfl) (by decide) (fun K hK => ?_)
          refine skip_ (w1 := W8.setCell ⟨g + 1, i, none⟩ (.string s0)) (by rfl) rfl (by have c := Q8.out.cell hlt; have cf := Q8.out.f i; go_simp) ?_
          refine hK.out _ _ (hHeld.trans (Only.setCell (S := fun k => k = g ∨ k = g + 1) W8 (.inr rfl) _)) (fun hxx => ?_)
          clear hK K
          replace hHeld := hxx
          clear hxx
          have Q9 : Fact (Arr (W8.setCell ⟨g + 1, i, none⟩ (.string s0)) (g + 1) (fill recs (i + 1))) := ⟨by have := Q8.out.set hlt s0; rwa [hup] at this⟩
          have P9 : Fact (Arr (W8.setCell ⟨g + 1, i, none⟩ (.string s0)) g (fill recs (i + 1))) := ⟨P8.out.only (Only.setCell (S := fun k => k = g + 1) W8 rfl _) (by omega)⟩
          have H9 := Fact.mk (H6.out.only hHeld (fun k hk => by have := HGm.out; omega) (fun k hk => by have := HRS.out k hk; omega) (by have := HSS.out; omega))
          clear P8 Q8 hHeld hup HCv H6
          generalize W8.setCell ⟨g + 1, i, none⟩ (.string s0) = W9 at *
          refine done_ (by kernel_rfl) ?_
          go_wp2_with fail
          exact ⟨⟨i + 1, by go_num, by omega, ⟨H9.out, P9.out, Q9.out⟩⟩, by simp [intOf]; omega⟩
        · have he : i = 3 := by omega
          subst he
          have hlt2 : ¬ (((3 : Nat) : Int) < 3) := by omega
          have P6 := Fact.mk (P5.out.congr (v2 := fun k => strOfNums (recs k)) (fun k hk => if_pos hk))
          have Q6 := Fact.mk (Q5.out.congr (v2 := fun k => strOfNums (recAt k (recs k) (b.take 0))) (fun k hk => if_pos hk))
          clear P5 Q5
          go_wp2_with fail
          refine (Arm_law H5.out.jr arm harm2.out).mono ?_
          rintro e w7 ⟨rfl, h7, o7⟩
          have H7 : Fact (Sl w w7 L (D1.arm arm) q s false) := ⟨⟨h7, H5.out.slots.only o7 H5.out.apart, H5.out.snew⟩⟩
          have P7 := Fact.mk (P6.out.only o7 (fun h => by have := HRS.out _ h; omega))
          have Q7 := Fact.mk (Q6.out.only o7 (fun h => by have := HRS.out _ h; omega))
          have R7 := Fact.mk (R4.out.arm harm2.out)
          have U7 : Fact ((D1.arm arm).down = false) := ⟨U4.out⟩
          clear h7 o7 H5 P6 Q6 R4 U4
          generalize D1.arm arm = D2 at *
          have hcB : Chs (RS L q) w7 B b := (Chs.of_read HB.out H7.out.jr.new).step (Only.of_below H7.out.jr.below _)
          go_wp2_with fail
          rcases sdo_armed R7.out (m := 3) rfl (by decide) (by decide) b with ⟨e2, hd2, he2⟩ | ⟨e2, D3, hd2, hj2, hok2, hi3, hr3, he2⟩
          · refine (SDo_law H7.out (m := 3) (by rw [R7.out.size]; rfl) B cb hcB (by have := HB20.out; omega) hd2).mono ?_
            rintro e w8 ⟨rfl, h8, -⟩
            have H8 := Fact.mk h8
            clear h8 H7 hcB hd2 P7 Q7
            rcases he2 with rfl | rfl
            all_goals
              go_wp2_with fail
              refine (Down_any H8.out.jr.disk).mono ?_
              rintro e w9 ⟨rfl, rfl⟩
              rw [U7.out]
              go_wp2_with fail
              go_ret
              exact ⟨rfl, H8.out.jr.below⟩
          · refine (SDo_law H7.out (m := 3) (by rw [R7.out.size]; rfl) B cb hcB (by have := HB20.out; omega) hd2).mono ?_
            rintro e w8 ⟨rfl, h8, o8⟩
            generalize decide (e2 ≠ 0) = br at h8
            have H8 := Fact.mk h8
            have P8 := Fact.mk (P7.out.only o8 (fun h => by have := HRS.out _ h; omega))
            have Q8 := Fact.mk (Q7.out.only o8 (fun h => by have := HRS.out _ h; omega))
            have HP := Fact.mk (putsOk_props hok2).1
            obtain ⟨D5, gg, ho5, hd5, hr5, hg1, hg2⟩ := sl_last hj2 hi3 hr3 keep
            have hN : Fact (∃ recsN, (∀ i, SlotIs gg i (recsN i)) ∧ (recsN = (fun k => recAt k (recs k) b) ∨ recsN = recs ∧ e2 ≠ 0)) := ⟨by
              by_cases h0 : e2 = 0
              · refine ⟨_, fun i => ?_, .inl rfl⟩
                rw [hg2 h0]
                exact slots_wrote hj2 rfl hok2 (HI.out i)
              · rcases hg1 with rfl | rfl
                · exact ⟨_, HI.out, .inr ⟨rfl, h0⟩⟩
                · exact ⟨_, fun i => slots_wrote hj2 rfl hok2 (HI.out i), .inl rfl⟩⟩
            have HO5 := Fact.mk ho5
            have HD5 := Fact.mk hd5
            have HR5 := Fact.mk hr5
            have HLow : Fact (100 < (D3.crash keep).n ∧ (D3.crash keep).Low) := ⟨by rw [(hi3.crash keep).size]; decide, (hi3.crash keep).low (crash_settled D3 keep)⟩
            have HCh : Fact (Chs (fun k => w.heap.size ≤ k) w B b) := ⟨Chs.of_read HB.out (fun k hk => hk)⟩
            have I1 : Fact (Sl w w8 L D3 q s br ∧ Arr w8 g (fun k => strOfNums (recs k)) ∧ Arr w8 (g + 1) (fun k => strOfNums (recAt k (recs k) (b.take 0)))) := ⟨H8.out, P8.out, Q8.out⟩
            clear h8 o8 H7 H8 P7 Q7 P8 Q8 hcB hd2 hj2 hok2 hi3 hr3 hg1 hg2 ho5 hd5 hr5 HI R7 U7
            rcases he2 with rfl | rfl
            all_goals
              go_wp2_with fail
              go_loopw [80] (fun v80 wr => ∃ i : Nat, v80 = .int .i64 (i : Int) ∧ i ≤ b.length ∧ Fact (Sl w wr L D3 q s br ∧ Arr wr g (fun k => strOfNums (recs k)) ∧ Arr wr (g + 1) (fun k => strOfNums (recAt k (recs k) (b.take i))))) (fun v _ => b.length - (intOf v).toNat)
              case atStart => exact ⟨0, rfl, Nat.zero_le _, I1⟩
              case round =>
                obtain ⟨i, rfl, hi, R⟩ := hrel
                clear I1
                have H9 := Fact.mk R.out.1
                have P9 := Fact.mk R.out.2.1
                have Q9 := Fact.mk R.out.2.2
                clear R
                by_cases hlt3 : i < b.length
                · have hlt4 : (i : Int) < (b.length : Int) := by omega
                  have hx : b[i]? = some b[i] := List.getElem?_eq_getElem hlt3
                  have HX := Fact.mk hx
                  obtain ⟨p1, p2, p3⟩ := HP.out b[i] (List.getElem_mem hlt3)
                  obtain ⟨ad2, As, cs, hA3, hse, hc⟩ := HCh.out.at_ hx
                  subst hA3
                  obtain ⟨c0, c1⟩ := hc _ (Only.of_below H9.out.jr.below _)
                  have hal := HB20.out
                  clear hc hx
                  generalize b[i] = x at *
                  obtain ⟨xs, xb⟩ := x
                  dsimp only at p1 p2 p3 c0 c1 hse
                  obtain ⟨k, rfl⟩ := Int.eq_ofNat_of_zero_le p1
                  have hk3 : k < 3 := by omega
                  have hk3i : (k : Int) < 3 := by omega
                  have S8 := Fact.mk (H9.out.step ((Below.refl _ _).alloc (Nat.le_refl _) (.cells #[.int .i64 (k : Int), .slice As xb.length cs] 39)))
                  have P10 := Fact.mk (P9.out.below ((Below.refl _ _).alloc (Nat.le_refl _) (.cells #[.int .i64 (k : Int), .slice As xb.length cs] 39)))
                  have Q10 := Fact.mk (Q9.out.below ((Below.refl _ _).alloc (Nat.le_refl _) (.cells #[.int .i64 (k : Int), .slice As xb.length cs] 39)))
                  have hcv : (convert 37 9 (.slice As xb.length cs)).run Try.prog (wr.alloc (.cells #[.int .i64 (k : Int), .slice As xb.length cs] 39)) = .ok (.string (strOfNums xb)) (wr.alloc (.cells #[.int .i64 (k : Int), .slice As xb.length cs] 39)) := Kd.C_string Try.underlying37 Try.underlying5 Try.underlying9 (hse.reads _ (Only.of_below S8.out.jr.below _))
                  have c := Q10.out.cell hk3
                  have cf := Q10.out.f k
                  have hup : upd (fun k => strOfNums (recAt k (recs k) (b.take i))) k (strOfNums xb) = fun k => strOfNums (recAt k (recs k) (b.take (i + 1))) := by
                    funext t
                    unfold upd
                    rw [recAt_snoc HX.out]
                    by_cases e : t = k
                    · rw [if_pos e, if_pos (by rw [e])]
                    · rw [if_neg e, if_neg (by show ¬ (k : Int) = (t : Int); omega)]
                  replace hup := Fact.mk hup
                  generalize recAt k (recs k) (b.take i) = ro at c
                  clear hse H9 P9 Q9 p1 p2 p3
                  go_wp2_with fail
                  refine ⟨⟨i + 1, by go_num, by omega, ⟨S8.out.only (Only.setCell (S := fun k => k = g + 1) _ rfl _) (fun k hk => by have := HGm.out; omega) (fun k hk e => by have := HRS.out k hk; omega) (fun e => by have := HSS.out; omega), P10.out.only (Only.setCell (S := fun k => k = g + 1) _ rfl _) (by omega), by have := Q10.out.set hk3 (strOfNums xb); rwa [hup.out] at this⟩⟩, by simp [intOf]; omega⟩
                · have he : i = b.length := by omega
                  subst he
                  have hlt4 : ¬ ((b.length : Int) < (b.length : Int)) := by omega
                  rw [List.take_length] at Q9
                  have hkeep : ∀ W, Only L.S wr W → ReadBool W Z keep.length keep := fun W ho => Kd.C_below HZ.out (next_below H9.out.jr.below ho H9.out.jr.at_.new)
                  go_wp2_with fail
                  refine (Crash_law H9.out.jr Z ck keep hkeep).mono ?_
                  rintro e w10 ⟨rfl, h10, o10⟩
                  have H10 := Fact.mk h10
                  have P10 := Fact.mk (P9.out.only o10 (fun h => by have := HRS.out _ h; omega))
                  have Q10 := Fact.mk (Q9.out.only o10 (fun h => by have := HRS.out _ h; omega))
                  clear h10 o10 H9 P9 Q9 hkeep
                  go_wp2_with fail
                  refine (Open_law H10.out HLow.out.1 HLow.out.2 HO5.out).mono ?_
                  rintro e w11 ⟨q', rfl, -, h11, o11⟩
                  have H11 := Fact.mk h11
                  have P11 := Fact.mk (P10.out.only o11 (fun h => by have := HRS.out _ h; omega))
                  have Q11 := Fact.mk (Q10.out.only o11 (fun h => by have := HRS.out _ h; omega))
                  clear h11 o11 H10 P10 Q10
                  go_wp2_with fail
                  refine (SOpen_any w11 q').mono ?_
                  rintro e w12 ⟨rfl, rfl⟩
                  have H12 : Fact (Sl w (w11.alloc (.cells #[.pointer (some ⟨q', 0, none⟩)] 82)) L D5 q' w11.heap.size false) := ⟨⟨H11.out.step ((Below.refl _ _).alloc (Nat.le_refl _) _), heap_alloc_new w11 _, H11.out.below.size⟩⟩
                  have P12 := Fact.mk (P11.out.below ((Below.refl _ _).alloc (Nat.le_refl _) (.cells #[.pointer (some ⟨q', 0, none⟩)] 82)))
                  have Q12 := Fact.mk (Q11.out.below ((Below.refl _ _).alloc (Nat.le_refl _) (.cells #[.pointer (some ⟨q', 0, none⟩)] 82)))
                  clear H11 P11 Q11
                  obtain ⟨recsN, hsn, hrn⟩ := hN.out
                  have HSN := Fact.mk hsn
                  have HRN := Fact.mk hrn
                  clear hsn hrn hN
                  have ha3 : Arr ((w11.alloc (.cells #[.pointer (some ⟨q', 0, none⟩)] 82)).alloc (.cells #[.string { data := #[] }, .string { data := #[] }, .string { data := #[] }] 45)) (w11.heap.size + 1) (fill recsN 0) := ⟨_, by have := heap_alloc_new (w11.alloc (.cells #[.pointer (some ⟨q', 0, none⟩)] 82)) (.cells #[.string { data := #[] }, .string { data := #[] }, .string { data := #[] }] 45); rwa [show (w11.alloc (.cells #[.pointer (some ⟨q', 0, none⟩)] 82)).heap.size = w11.heap.size + 1 from by simp] at this⟩
                  have I2 : Fact (Sl w ((w11.alloc (.cells #[.pointer (some ⟨q', 0, none⟩)] 82)).alloc (.cells #[.string { data := #[] }, .string { data := #[] }, .string { data := #[] }] 45)) L D5 q' w11.heap.size false ∧ Arr ((w11.alloc (.cells #[.pointer (some ⟨q', 0, none⟩)] 82)).alloc (.cells #[.string { data := #[] }, .string { data := #[] }, .string { data := #[] }] 45)) g (fun k => strOfNums (recs k)) ∧ Arr ((w11.alloc (.cells #[.pointer (some ⟨q', 0, none⟩)] 82)).alloc (.cells #[.string { data := #[] }, .string { data := #[] }, .string { data := #[] }] 45)) (g + 1) (fun k => strOfNums (recAt k (recs k) b)) ∧ Arr ((w11.alloc (.cells #[.pointer (some ⟨q', 0, none⟩)] 82)).alloc (.cells #[.string { data := #[] }, .string { data := #[] }, .string { data := #[] }] 45)) (w11.heap.size + 1) (fill recsN 0)) := ⟨H12.out.step ((Below.refl _ _).alloc (Nat.le_refl _) _), P12.out.below ((Below.refl _ _).alloc (Nat.le_refl _) _), Q12.out.below ((Below.refl _ _).alloc (Nat.le_refl _) _), ha3⟩
                  have HR2 : Fact (∀ k, RS L q' k → k < w11.heap.size + 1) := ⟨fun k hk => by have := H12.out.jr.lt k hk; simpa using this⟩
                  have HG2 : Fact (w.heap.size ≤ w11.heap.size + 1 ∧ g < w11.heap.size + 1 ∧ g + 1 < w11.heap.size + 1) := ⟨by have := H12.out.jr.below.size; simpa using this, by have := P12.out.lt; simpa using this, by have := Q12.out.lt; simpa using this⟩
                  clear ha3 H12 P12 Q12
                  go_wp2_with fail
                  generalize w11.heap.size = s2 at *
                  go_loopw [107] (fun v107 wr => ∃ i : Nat, v107 = .int .i64 (i : Int) ∧ i ≤ 3 ∧ Fact (Sl w wr L D5 q' s2 false ∧ Arr wr g (fun k => strOfNums (recs k)) ∧ Arr wr (g + 1) (fun k => strOfNums (recAt k (recs k) b)) ∧ Arr wr (s2 + 1) (fill recsN i))) (fun v _ => 3 - (intOf v).toNat)
                  case atStart => exact ⟨0, rfl, Nat.zero_le _, I2⟩
                  case round =>
                    obtain ⟨i, rfl, hi, R⟩ := hrel
                    clear I2
                    have H13 := Fact.mk R.out.1
                    have P13 := Fact.mk R.out.2.1
                    have Q13 := Fact.mk R.out.2.2.1
                    have N13 := Fact.mk R.out.2.2.2
                    clear R
                    by_cases hlt5 : i < 3
                    · have hlt6 : (i : Int) < 3 := by omega
                      go_wp2_with fail
                      refine (Get_law H13.out HR5.out HD5.out (m := 3) rfl (i := i) rfl (HSN.out i) hlt5).mono ?_
                      rintro e w14 ⟨hg, h14, b14⟩
                      obtain ⟨v, x, rfl, hcv⟩ := Get_str hg
                      have H14 := Fact.mk h14
                      have P14 := Fact.mk (P13.out.below b14)
                      have Q14 := Fact.mk (Q13.out.below b14)
                      have N14 := Fact.mk (N13.out.below b14)
                      replace hcv := hcv (fun _ => False) w14 (fun _ h => h.elim) (Only.refl _ _)
                      have c := N14.out.cell hlt5
                      have cf := N14.out.f i
                      have hup : upd (fill recsN i) i (strOfNums (recsN i)) = fill recsN (i + 1) := fill_step recsN i
                      replace hup := Fact.mk hup
                      generalize fill recsN i i = ro at c
                      clear hg h14 b14 H13 P13 Q13 N13
                      go_wp2_with fail
                      refine ⟨⟨i + 1, by go_num, by omega, ⟨H14.out.only (Only.setCell (S := fun k => k = s2 + 1) _ rfl _) (fun k hk => by have := HG2.out; omega) (fun k hk e => by have := HR2.out k hk; omega) (by omega), P14.out.only (Only.setCell (S := fun k => k = s2 + 1) _ rfl _) (by have := HG2.out; omega), Q14.out.only (Only.setCell (S := fun k => k = s2 + 1) _ rfl _) (by have := HG2.out; omega), by have := N14.out.set hlt5 (strOfNums (recsN i)); rwa [hup.out] at this⟩⟩, by simp [intOf]; omega⟩
                    · have he : i = 3 := by omega
                      subst he
                      have hlt6 : ¬ (((3 : Nat) : Int) < 3) := by omega
                      have N14 := Fact.mk (N13.out.congr (v2 := fun k => strOfNums (recsN k)) (fun k hk => if_pos hk))
                      clear N13
                      have n0 := N14.out.cell (k := 0) (by decide)
                      have n1 := N14.out.cell (k := 1) (by decide)
                      have n2 := N14.out.cell (k := 2) (by decide)
                      have q0 := Q13.out.cell (k := 0) (by decide)
                      have q1 := Q13.out.cell (k := 1) (by decide)
                      have q2 := Q13.out.cell (k := 2) (by decide)
                      have p0 := P13.out.cell (k := 0) (by decide)
                      have p1 := P13.out.cell (k := 1) (by decide)
                      have p2 := P13.out.cell (k := 2) (by decide)
                      rcases HRN.out with rfl | ⟨rfl, hne⟩
                      · obtain ⟨r, hr, hiff⟩ := equal_arr wr (fun k => strOfNums (recAt k (recs k) b)) (fun k => strOfNums (recAt k (recs k) b))
                        obtain rfl : r = true := hiff.2 ⟨rfl, rfl, rfl⟩
                        clear hiff
                        go_wp2_with fail
                        go_ret
                        exact ⟨rfl, H13.out.jr.below⟩
                      · try exact absurd rfl hne
                        all_goals
                          obtain ⟨r, hr, -⟩ := equal_arr wr (fun k => strOfNums (recsN k)) (fun k => strOfNums (recAt k (recsN k) b))
                          obtain ⟨r2, hr2, hiff⟩ := equal_arr wr (fun k => strOfNums (recsN k)) (fun k => strOfNums (recsN k))
                          obtain rfl : r2 = true := hiff.2 ⟨rfl, rfl, rfl⟩
                          clear hiff
                          cases r with
                          | true =>
                            go_wp2_with fail
                            go_ret
                            exact ⟨rfl, H13.out.jr.below⟩
                          | false =>
                            go_wp2_with fail
                            go_ret
                            exact ⟨rfl, H13.out.jr.below⟩
end Go.Proofs.Ytdkijmikafmgaaa.Dk
