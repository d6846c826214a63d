/-
What '(*Redo).Do' does with a job: the walk.
-/
import Derived.Test.YtjpbpeiknnloeaaRdW8
namespace Go.Proofs.Ytjpbpeiknnloeaa.Dk
open Go.RowKit Go.Maps Go.Proofs.YtjpbpeiknnloeaaW.PrintWords Go.Proofs.YtjpbpeiknnloeaaW.PrintLast Go.Proofs.YtjpbpeiknnloeaaW.PrintMore
set_option linter.unusedVariables false
set_option linter.unusedSimpArgs false

theorem one_data (w : World) (S : Nat → Prop) (hs : ∀ k, S k → k < w.heap.size) (n : Int) (s : SV) (b : List Int) (h : Sees S w s b) : Chs S (w.alloc (.cells #[.int .i64 n, .slice s.A s.n s.c] 47)) (some ⟨w.heap.size, 0, none⟩) [(n, b)] := by
  have hR : Kd.R chK 47 (w.alloc (.cells #[.int .i64 n, .slice s.A s.n s.c] 47)) w.heap.size (fun k => w.heap.size ≤ k) (.slice (some ⟨w.heap.size, 0, none⟩) 1 1) [(n, s)] :=
    ⟨fun k hk => by simp [Value.ownBlock] at hk; omega, OwnRow.lit w w.heap.size (Reps.c2 (M_ch _ _ _ n s) (Reps.none _ _)) (Nat.le_refl _) (by simp)⟩
  refine Chs.of_own hR (fun k hk h => by have := hs k h; omega) rfl ?_
  intro j v x hv hx
  rcases j with _ | j
  · obtain rfl := Option.some.inj hv
    obtain rfl := Option.some.inj hx
    exact ⟨rfl, h.step (Only.alloc S _ _)⟩
  · cases hv
section
variable {w : World} {L : DL} {D : PD} {q : Nat} {br : Bool} {S : Nat → Prop}
set_option maxHeartbeats 4000000 in
set_option maxRecDepth 1000000 in
theorem Do_right (hd : IsDisk w L D) (hr : IsRedo w q L false) (A : Option Addr) (c : Nat) (l : List Ch) (hl : Chs S w A l) (hS : ∀ k, RS L q k → S k) (hlt : ∀ k, S k → k < w.heap.size) (h : rightOf ((D.n : Int) - 100) l = true) :
    Calls Try.prog 12 #[.pointer (some ⟨q, 0, none⟩), .slice A l.length c] w (DoTo w L q ((D.doJob l).1, (D.doJob l).2, decide ((D.doJob l).1 ≠ 0))) := by
  have c1 := hr.c1
  have HD := Fact.mk hd
  have HR := Fact.mk hr
  have HC := Fact.mk hl
  have HS := Fact.mk hS
  have HLt := Fact.mk hlt
  have HQ := Fact.mk (hr.apart hd)
  have HP := Fact.mk (right_props h)
  have hn := hd.good.most
  have HT := Fact.mk (right_any hd hr A c l hl)
  rw [h] at HT
  clear hd hr hl h hS hlt
  go_enter Try.func12, Try.ntmps12
  go_wp2_with fail
  refine HT.out.mono ?_
  rintro e w1 ⟨rfl, b1⟩
  have B1 := Fact.mk b1
  clear b1 HT c1
  go_wp2_with fail
  refine (job_any A c l (HC.out.step (Only.of_below B1.out S)) HP.out.2.2.2 (fun x hx => ⟨(HP.out.1 x hx).1, by have := (HP.out.1 x hx).2.1; omega, (HP.out.1 x hx).2.2⟩)).mono ?_
  rintro e w2 ⟨g, c2, rfl, hc2, hrw, b2⟩
  have B2 := Fact.mk (next_new B1.out b2)
  have J2 := Fact.mk (hrw S (fun k hk => Nat.lt_of_lt_of_le (HLt.out k hk) B1.out.size))
  clear hrw b2 B1
  go_wp2_with fail
  have hil : (imagesOf l).length = 3 + l.length := by rw [imagesOf_eq, List.length_append, List.length_map]; rfl
  have hlen := HP.out.2.2.2
  have JI := Fact.mk (Rws.rest (r := imagesOf l) (b := headOf l) J2.out (by omega))
  have hb2 : w.heap.size ≤ w2.heap.size := B2.out.size
  have I0 : Fact (∃ vs, vs.length = 0 ∧ Kd.R chK 47 w2 w2.heap.size (fun k => w2.heap.size ≤ k) (.slice none 0 0) vs ∧ Numbers S w2 (imagesOf l) vs) := ⟨[], rfl, Kd.R_nil _ _ _ _ _, fun i v x hv => by simp at hv⟩
  go_loopw [6, 25] (fun v6 v25 wr => ∃ j : Nat, v25 = .int .i64 (j : Int) ∧ j ≤ 3 + l.length ∧ Fact (∃ vs, vs.length = j ∧ Kd.R chK 47 wr w2.heap.size (fun k => w2.heap.size ≤ k) v6 vs ∧ Numbers S w2 (imagesOf l) vs) ∧ Fact (Below w2.heap.size w2 wr)) (fun _ v _ => 3 + l.length - (intOf v).toNat)
  case atStart => exact ⟨0, rfl, Nat.zero_le _, I0, ⟨Below.refl _ _⟩⟩
  case round =>
    obtain ⟨j, rfl, hj, R1, R2⟩ := hrel
    clear I0
    obtain ⟨vs, hvl, hR, hL⟩ := R1.out
    obtain ⟨A6, c6, rfl⟩ := Kd.R_slice hR
    have HV := Fact.mk hR
    have HN := Fact.mk hL
    have hbase : w2.heap.size ≤ wr.heap.size := R2.out.size
    clear R1 hR hL
    by_cases hlt : j < 3 + l.length
    · have hlt2 : (j : Int) < 3 + (l.length : Int) := by omega
      have hx : (imagesOf l)[j]? = some (imagesOf l)[j] := List.getElem?_eq_getElem (by omega)
      have HX := Fact.mk hx
      obtain ⟨ad, As, cs, hA, hs, hc⟩ := JI.out.at_ hx
      injection hA with hA
      subst hA
      have hc := hc wr (Only.of_below R2.out S)
      have HSee := Fact.mk hs
      rw [show (⟨g, 1, none⟩ : Addr).add j = ⟨g, 1 + j, none⟩ from Addr.add_mid _ _ _] at hc
      clear hs hx
      generalize (imagesOf l)[j] = x at *
      go_wp2_with ((with_reducible refine gate_builtin (b := .append) (xs := #[.tmp 30, .tmp 35]) rfl ?_); at_builtin; refine Fact.out (p := _) ?_)
      refine Fact.mk ?_
      refine Kd.R_append chK (w0 := w2) w2.heap.size rfl (.tmp 30) (.tmp 35) 22 47 (.agg #[.int .i64 0, .slice none 0 0]) 32 rfl Try.underlying22 info_ch rfl (by decide) (by decide) (.slice A6 vs.length c6) vs (1 + (j : Int), ⟨As, x.length, cs⟩) [.int .i64 (1 + (j : Int)), .slice As x.length cs] (fun k => w2.heap.size ≤ k) (fun _ => False) rfl rfl (M_ch _ _ _ _ ⟨As, x.length, cs⟩) (fun _ h => h.elim) ?aF ?aO ?aB ?aS ?aL ?_
      case aF => intro k hk; omega
      case aO => exact HV.out
      case aB => exact R2.out
      case aS => exact hbase
      case aL => omega
      intro v1 w3 ho hb hg hat
      have HO := Fact.mk ho
      have HB := Fact.mk hb
      clear ho hb hg hat
      go_wp2_with fail
      exact ⟨⟨j + 1, by go_num, by omega, ⟨_, by simp [hvl], HO.out, HN.out.snoc hvl HX.out rfl HSee.out⟩, HB⟩, by simp [intOf]; omega⟩
    · have he : j = 3 + l.length := by omega
      subst he
      have hlt2 : ¬ (3 + (l.length : Int) < 3 + (l.length : Int)) := by omega
      have HChs : Fact (Chs S wr A6 (PD.numbered 1 (imagesOf l))) := ⟨Chs.of_own HV.out (fun k hk h => by have := HLt.out k h; omega) (by rw [hvl, numbered_length, hil]) (fun i v y hv hy => by
        rw [numbered_get] at hy
        cases hx : (imagesOf l)[i]? with
        | none => rw [hx] at hy; cases hy
        | some b =>
          rw [hx] at hy
          obtain rfl := Option.some.inj hy
          obtain ⟨e1, e2⟩ := HN.out i v b hv hx
          exact ⟨e1, e2.step (Only.of_below R2.out S)⟩)⟩
      have B3 := Fact.mk (next_new B2.out R2.out)
      have HD1 : Fact (IsDisk wr L D) := ⟨HD.out.below B3.out⟩
      have HR1 : Fact (IsRedo wr q L false) := ⟨HR.out.only (Only.of_below B3.out L.S) HQ.out⟩
      have HC1 := Fact.mk (HC.out.step (Only.of_below B3.out S))
      have J3 := Fact.mk (J2.out.step (Only.of_below R2.out S))
      have hvl2 : vs.length = (PD.numbered 1 (imagesOf l)).length := by rw [hvl, numbered_length, hil]
      have HF : Fact (D.doJob l = if (D.writes (PD.numbered 1 (imagesOf l))).1 = 0 then (if ((D.writes (PD.numbered 1 (imagesOf l))).2.writes [(0, headOf l)]).1 = 0 then ((D.writes (PD.numbered 1 (imagesOf l))).2.writes [(0, headOf l)]).2.finish l else (D.writes (PD.numbered 1 (imagesOf l))).2.writes [(0, headOf l)]) else D.writes (PD.numbered 1 (imagesOf l))) := ⟨rfl⟩
      generalize PD.numbered 1 (imagesOf l) = l2 at *
      rw [hvl2]
      clear HV HN hvl hvl2 JI
      go_wp2_with fail
      refine (write_any HD1.out HR1.out A6 c6 l2 HChs.out (fun k hk => HS.out k (.inl hk))).mono ?_
      rintro e w4 ⟨rfl, h4, o4⟩
      have H4 := Fact.mk h4
      have O4 : Fact (Only L.S w w4) := ⟨(Only.of_below B3.out L.S).trans o4⟩
      have Q4 : Fact (IsRedo w4 q L false) := ⟨HR1.out.only o4 HQ.out⟩
      have HC4 := Fact.mk (HC1.out.step (o4.mono (fun k hk => HS.out k (.inl hk))))
      have J4 := Fact.mk (J3.out.step (o4.mono (fun k hk => HS.out k (.inl hk))))
      have G4 : Fact (∀ k, S k → k < w4.heap.size) := ⟨fun k hk => Nat.lt_of_lt_of_le (HLt.out k hk) O4.out.size⟩
      clear h4 o4 HD1 HR1 HChs HC1 J3 J2 B3 B2 R2 hb2
      by_cases hr : (D.writes l2).1 = 0
      · have HF2 := HF.out
        rw [if_pos hr] at HF2
        replace HF2 := Fact.mk HF2
        generalize D.writes l2 = r at *
        obtain ⟨r1, r2⟩ := r
        obtain rfl : r1 = 0 := hr
        clear HF
        obtain ⟨ad, As, cs, hA, hs, hc⟩ := J4.out.at_ (j := 0) (x := headOf l) rfl
        injection hA with hA
        subst hA
        have hc := hc w4 (Only.refl _ _)
        rw [show (⟨g, 0, none⟩ : Addr).add 0 = ⟨g, 0, none⟩ from rfl] at hc
        have HSee := Fact.mk hs
        clear hs
        rename_i hc0
        clear hc0
        generalize headOf l = hd at *
        go_wp2_with fail
        refine (write_any (S := S) (H4.out.alloc _) (Q4.out.only (Only.alloc L.S _ _) HQ.out) _ 1 [(0, hd)] (one_data w4 S G4.out 0 _ hd HSee.out) (fun k hk => HS.out k (.inl hk))).mono ?_
        rintro e w5 ⟨rfl, h5, o5⟩
        have H5 := Fact.mk h5
        have O45 : Fact (Only L.S w4 w5) := ⟨(Only.alloc L.S _ _).trans o5⟩
        have O5 : Fact (Only L.S w w5) := ⟨O4.out.trans O45.out⟩
        have Q5 : Fact (IsRedo w5 q L false) := ⟨Q4.out.only O45.out HQ.out⟩
        have HC5 := Fact.mk (HC4.out.step (O45.out.mono (fun k hk => HS.out k (.inl hk))))
        have G5 : Fact (∀ k, S k → k < w5.heap.size) := ⟨fun k hk => Nat.lt_of_lt_of_le (HLt.out k hk) O5.out.size⟩
        clear h5 o5 hc
        by_cases hr : (r2.writes [(0, hd)]).1 = 0
        · have HF3 := HF2.out
          rw [if_pos hr] at HF3
          replace HF3 := Fact.mk HF3
          generalize r2.writes [(0, hd)] = r at *
          obtain ⟨r3, r4⟩ := r
          obtain rfl : r3 = 0 := hr
          clear HF2
          go_wp2_with fail
          refine (finish_any (S := S) H5.out Q5.out A c l HC5.out (fun k hk => HS.out k (.inl hk)) G5.out (fun x hx => ⟨(HP.out.1 x hx).1, by have := (HP.out.1 x hx).2.1; omega⟩) HP.out.2.2.2).mono ?_
          rintro e w6 ⟨rfl, h6, o6⟩
          have H6 := Fact.mk h6
          have Q6 := Fact.mk (Q5.out.only o6 HQ.out)
          have O6 := Fact.mk (O5.out.trans o6)
          have c0 := Q6.out.c0
          have f1 := Q6.out.f 1
          have c1 := Q6.out.c1
          clear h6 o6
          have HF4 : Fact (D.doJob l = r4.finish l) := HF3
          generalize r4.finish l = r at *
          obtain ⟨r5, r6⟩ := r
          clear HF3
          dsimp only at H6 ⊢
          have eb : decide (r5 ≠ 0) = (r5 != 0) := by by_cases h : r5 = 0 <;> simp [h]
          have EB := Fact.mk eb
          clear eb
          go_wp2_with fail
          go_ret
          rw [HF4.out]
          refine ⟨rfl, Q6.out.set_disk H6.out _, ?_, (O6.out.mono (fun k hk => .inl hk)).trans (Only.setCell (S := RS L q) _ (.inr rfl) _)⟩
          show IsRedo _ q L (decide (r5 ≠ 0))
          rw [EB.out]
          exact Q6.out.set _
        · have HF3 := HF2.out
          rw [if_neg hr] at HF3
          replace HF3 := Fact.mk HF3
          generalize r2.writes [(0, hd)] = r at *
          obtain ⟨r3, r4⟩ := r
          have hr : ¬ r3 = 0 := hr
          have c0 := Q5.out.c0
          have f1 := Q5.out.f 1
          have c1 := Q5.out.c1
          clear HF2
          go_wp2_with fail
          go_ret
          rw [HF3.out]
          exact ⟨rfl, Q5.out.set_disk H5.out _, by rw [show decide ((r3, r4).1 ≠ 0) = (r3 != 0) from by simp [hr]]; exact Q5.out.set _, (O5.out.mono (fun k hk => .inl hk)).trans (Only.setCell (S := RS L q) _ (.inr rfl) _)⟩
      · have HF2 := HF.out
        rw [if_neg hr] at HF2
        replace HF2 := Fact.mk HF2
        generalize D.writes l2 = r at *
        obtain ⟨r1, r2⟩ := r
        have hr : ¬ r1 = 0 := hr
        have c0 := Q4.out.c0
        have f1 := Q4.out.f 1
        have c1 := Q4.out.c1
        clear HF
        go_wp2_with fail
        go_ret
        rw [HF2.out]
        exact ⟨rfl, Q4.out.set_disk H4.out _, by rw [show decide ((r1, r2).1 ≠ 0) = (r1 != 0) from by simp [hr]]; exact Q4.out.set _, (O4.out.mono (fun k hk => .inl hk)).trans (Only.setCell (S := RS L q) _ (.inr rfl) _)⟩
end
/-- '(*Redo).Do'. -/
theorem Do_any {w : World} {L : DL} {D : PD} {q : Nat} {br : Bool} {S : Nat → Prop} (hd : IsDisk w L D) (hr : IsRedo w q L br) (A : Option Addr) (c : Nat) (l : List Ch) (hl : Chs S w A l) (hS : ∀ k, RS L q k → S k) (hlt : ∀ k, S k → k < w.heap.size) :
    Calls Try.prog 12 #[.pointer (some ⟨q, 0, none⟩), .slice A l.length c] w (DoTo w L q (D.do_ br l)) := by
  cases br with
  | true => exact Do_broken hd hr A l.length c
  | false =>
    unfold PD.do_
    rw [if_neg (by decide)]
    by_cases h : rightOf ((D.n : Int) - 100) l = false
    · rw [if_pos h]; exact Do_wrong hd hr A c l hl h
    · rw [if_neg h]; exact Do_right hd hr A c l hl hS hlt (by simpa using h)
end Go.Proofs.Ytjpbpeiknnloeaa.Dk
