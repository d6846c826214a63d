/-
What '(*Redo).finish' does: a job whose head stands is done, and the head goes.
-/
import Derived.Test.YtjpbpeiknnloeaaRdW2
import Derived.Test.YtjpbpeiknnloeaaWRepsOne
namespace Go.Proofs.Ytjpbpeiknnloeaa.Dk
open Go.RowKit Go.Maps Go.Proofs.YtjpbpeiknnloeaaW.PrintWords Go.Proofs.YtjpbpeiknnloeaaW.PrintLast Go.Proofs.YtjpbpeiknnloeaaW.PrintMore
set_option linter.unusedVariables false
set_option linter.unusedSimpArgs false

theorem info_ch : (Try.prog.info? 47).map (fun i => (i.zero, i.size, i.bytes)) = some (some (.agg #[.int .i64 0, .slice none 0 0]), 2, 32) := by kernel_rfl
def Listed (S : Nat → Prop) (w : World) (f : Int → Int) (l : List Ch) (vs : List (Int × SV)) : Prop := ∀ (i : Nat) v x, vs[i]? = some v → l[i]? = some x → v.1 = f x.1 ∧ Sees S w v.2 x.2
theorem Listed.snoc {S : Nat → Prop} {w : World} {f : Int → Int} {l : List Ch} {vs : List (Int × SV)} (h : Listed S w f l vs) {j : Nat} (hj : vs.length = j) {x : Ch} (hx : l[j]? = some x) {n : Int} (hn : n = f x.1) {s : SV} (hs : Sees S w s x.2) : Listed S w f l (vs ++ [(n, s)]) := by
  intro i v y hv hy
  rcases Nat.lt_trichotomy i vs.length with hi | hi | hi
  · rw [List.getElem?_append_left hi] at hv; exact h i v y hv hy
  · subst hi; subst hj
    rw [List.getElem?_append_right (Nat.le_refl _), Nat.sub_self] at hv
    obtain rfl := Option.some.inj hv
    rw [hx] at hy
    obtain rfl := Option.some.inj hy
    exact ⟨hn, hs⟩
  · rw [List.getElem?_eq_none (by simp; omega)] at hv; cases hv
theorem M_ch (W : World) (base : Nat) (ok : Nat → Prop) (n : Int) (s : SV) : chK.M W base ok (n, s) [.int .i64 n, .slice s.A s.n s.c] := ⟨[.int .i64 n], [s.v], rfl, rfl, rfl⟩
theorem one_change (w : World) (S : Nat → Prop) (hs : ∀ k, S k → k < w.heap.size) (n : Int) : Chs S (w.alloc (.cells #[.int .i64 n, .slice none 0 0] 47)) (some ⟨w.heap.size, 0, none⟩) [(n, [])] := by
  have hR : Kd.R chK 47 (w.alloc (.cells #[.int .i64 n, .slice none 0 0] 47)) w.heap.size (fun k => w.heap.size ≤ k) (.slice (some ⟨w.heap.size, 0, none⟩) 1 1) [(n, ⟨none, 0, 0⟩)] :=
    ⟨fun k hk => by simp [Value.ownBlock] at hk; omega, OwnRow.lit w w.heap.size (Reps.c2 (M_ch _ _ _ n ⟨none, 0, 0⟩) (Reps.none _ _)) (Nat.le_refl _) (by simp)⟩
  refine Chs.of_own hR (fun k hk h => by have := hs k h; omega) rfl ?_
  intro j v x hv hx
  rcases j with _ | j
  · obtain rfl := Option.some.inj hv
    obtain rfl := Option.some.inj hx
    exact ⟨rfl, rfl, Nat.le_refl _, fun w' _ => ⟨rfl, by simp, fun h => absurd h (by simp)⟩⟩
  · cases hv
section
variable {w : World} {L : DL} {D : PD} {q : Nat} {br : Bool} {S : Nat → Prop}
set_option maxHeartbeats 1000000 in
set_option maxRecDepth 100000 in
/-- '(*Redo).finish'. -/
theorem finish_any (hd : IsDisk w L D) (hr : IsRedo w q L br) (A : Option Addr) (c : Nat) (l : List Ch) (hl : Chs S w A l) (hS : ∀ k, L.S k → S k) (hlt0 : ∀ k, S k → k < w.heap.size) (hb : ∀ x ∈ l, 0 ≤ x.1 ∧ x.1 ≤ 4096) (hlen : l.length ≤ 96) :
    Calls Try.prog 24 #[.pointer (some ⟨q, 0, none⟩), .slice A l.length c] w (DoesTo w L (D.finish l)) := by
  have HR := Fact.mk hr
  have HD := Fact.mk hd
  have HC := Fact.mk hl
  have HS := Fact.mk hS
  have HLt := Fact.mk hlt0
  have HQ := Fact.mk (hr.apart hd)
  have HB := Fact.mk hb
  have I0 : Fact (∃ vs, vs.length = 0 ∧ Kd.R chK 47 w w.heap.size (fun k => w.heap.size ≤ k) (.slice none 0 0) vs ∧ Listed S w (fun n => 100 + n) l vs) := ⟨[], rfl, Kd.R_nil _ _ _ _ _, fun i v x hv => by simp at hv⟩
  clear hd hr hl hS hb hlt0
  go_enter Try.func24, Try.ntmps24
  go_wp2_with fail
  go_loopw [5, 11] (fun v5 v11 wr => ∃ j : Nat, v11 = .int .i64 (j : Int) ∧ j ≤ l.length ∧ Fact (∃ vs, vs.length = j ∧ Kd.R chK 47 wr w.heap.size (fun k => w.heap.size ≤ k) v5 vs ∧ Listed S w (fun n => 100 + n) l vs) ∧ Fact (Below w.heap.size w wr)) (fun _ v _ => l.length - (intOf v).toNat)
  case atStart => exact ⟨0, rfl, Nat.zero_le _, I0, ⟨Below.refl _ _⟩⟩
  case round =>
    obtain ⟨j, rfl, hj, R1, R2⟩ := hrel
    clear I0
    obtain ⟨vs, hvl, hR, hL⟩ := R1.out
    obtain ⟨A5, c5, rfl⟩ := Kd.R_slice hR
    have HV := Fact.mk hR
    have HLs := Fact.mk hL
    clear R1 hR hL
    by_cases hlt : j < l.length
    · have hlt2 : (j : Int) < (l.length : Int) := by omega
      have hx : l[j]? = some l[j] := List.getElem?_eq_getElem hlt
      have HX := Fact.mk hx
      obtain ⟨hb1, hb2⟩ := HB.out l[j] (List.getElem_mem hlt)
      obtain ⟨ad, As, cs, hA, hs, hc⟩ := HC.out.at_ hx
      subst hA
      obtain ⟨c0, c1⟩ := hc wr (Only.of_below R2.out S)
      have HSee := Fact.mk hs
      have hbase : w.heap.size ≤ wr.heap.size := R2.out.size
      clear hs hc hx
      generalize l[j] = x at *
      go_wp2_with ((with_reducible refine gate_builtin (b := .append) (xs := #[.tmp 15, .tmp 22]) rfl ?_); at_builtin; refine Kd.R_append chK (w0 := w) w.heap.size rfl (.tmp 15) (.tmp 22) 22 47 (.agg #[.int .i64 0, .slice none 0 0]) 32 rfl Try.underlying22 info_ch rfl (by decide) (by decide) (.slice A5 vs.length c5) vs (100 + x.1, ⟨As, x.2.length, cs⟩) [.int .i64 (100 + x.1), .slice As x.2.length cs] (fun k => w.heap.size ≤ k) (fun _ => False) rfl ?aX (M_ch _ _ _ _ ⟨As, x.2.length, cs⟩) (fun _ h => h.elim) ?aF ?aO ?aB ?aS ?aL ?_; (case aX => show Value.slice (some ⟨wr.heap.size + 1, 0, none⟩) 1 1 = _; simp); (case aF => intro k hk; simp at hk; omega); (case aO => exact Kd.R_below HV.out (below_alloc (Below.refl _ _) _)); (case aB => exact R2.out.alloc hbase _); (case aS => simp; omega); (case aL => omega); intro v5 w1 ho hb hg hat; have HO := Fact.mk ho; have B1 := Fact.mk hb; clear ho hb hg hat)
      exact ⟨⟨j + 1, by go_num, by omega, ⟨_, by simp [hvl], HO.out, HLs.out.snoc hvl HX.out rfl HSee.out⟩, B1⟩, by simp [intOf]; omega⟩
    · have he : j = l.length := by omega
      subst he
      have hlt2 : ¬ ((l.length : Int) < (l.length : Int)) := by omega
      have HChs : Fact (Chs S wr A5 (l.map fun x => (100 + x.1, x.2))) := ⟨Chs.of_own HV.out (fun k hk h => by have := HLt.out k h; omega) (by simp [hvl]) (fun i v y hv hy => by
        rw [List.getElem?_map] at hy
        cases hx : l[i]? with
        | none => rw [hx] at hy; cases hy
        | some x =>
          rw [hx] at hy
          obtain rfl := Option.some.inj hy
          obtain ⟨e1, e2⟩ := HLs.out i v x hv hx
          exact ⟨e1, e2.step (Only.of_below R2.out S)⟩)⟩
      have HD1 : Fact (IsDisk wr L D) := ⟨HD.out.below R2.out⟩
      have HR1 : Fact (IsRedo wr q L br) := ⟨HR.out.only (Only.of_below R2.out L.S) HQ.out⟩
      have HF : Fact (D.finish l = if (D.writes (l.map fun c => (100 + c.1, c.2))).1 = 0 then (D.writes (l.map fun c => (100 + c.1, c.2))).2.writes [(0, [])] else D.writes (l.map fun c => (100 + c.1, c.2))) := ⟨rfl⟩
      have hvl2 : vs.length = (l.map fun x : Ch => (100 + x.1, x.2)).length := by simp [hvl]
      generalize (l.map fun x : Ch => (100 + x.1, x.2)) = l2 at *
      rw [hvl2]
      clear HV HLs
      go_wp2_with fail
      refine (write_any HD1.out HR1.out A5 c5 l2 HChs.out HS.out).mono ?_
      rintro e w2 ⟨rfl, h2, o2⟩
      have H2 := Fact.mk h2
      have O2 : Fact (Only L.S w w2) := ⟨(Only.of_below R2.out L.S).trans o2⟩
      have Q2 : Fact (IsRedo w2 q L br) := ⟨HR1.out.only o2 HQ.out⟩
      clear h2 o2 HD1 HR1 HChs
      by_cases hr : (D.writes l2).1 = 0
      · have HF2 := HF.out
        rw [if_pos hr] at HF2
        have HF2 := Fact.mk HF2
        generalize D.writes l2 = r at *
        obtain ⟨r1, r2⟩ := r
        obtain rfl : r1 = 0 := hr
        clear HF
        go_wp2_with fail
        refine (write_any (S := S) (H2.out.alloc _) (Q2.out.only (Only.alloc L.S _ _) HQ.out) _ 1 [(0, [])] (one_change w2 S (fun k hk => Nat.lt_of_lt_of_le (HLt.out k hk) O2.out.size) 0) HS.out).mono ?_
        rintro e w3 ⟨rfl, h3, o3⟩
        have H3 := Fact.mk h3
        have O3 : Fact (Only L.S w w3) := ⟨O2.out.trans ((Only.alloc L.S _ _).trans o3)⟩
        clear h3 o3
        go_wp2_with fail
        go_ret
        rw [HF2.out]
        exact ⟨rfl, H3.out, O3.out⟩
      · have HF2 := HF.out
        rw [if_neg hr] at HF2
        have HF2 := Fact.mk HF2
        generalize D.writes l2 = r at *
        obtain ⟨r1, r2⟩ := r
        have hr : ¬ r1 = 0 := hr
        clear HF
        go_wp2_with fail
        go_ret
        rw [HF2.out]
        exact ⟨rfl, H2.out, O2.out⟩
end
end Go.Proofs.Ytjpbpeiknnloeaa.Dk
