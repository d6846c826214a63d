/-
What 'sum' does.
-/
import Derived.Test.YtjpbpeiknnloeaaRdW4
namespace Go.Proofs.Ytjpbpeiknnloeaa.Dk
open Go.RowKit Go.Maps Go.Proofs.YtjpbpeiknnloeaaW.PrintWords Go.Proofs.YtjpbpeiknnloeaaW.PrintLast Go.Proofs.YtjpbpeiknnloeaaW.PrintMore
set_option linter.unusedVariables false
set_option linter.unusedSimpArgs false

theorem read_cell {w : World} {A : Option Addr} {l : List Int} (h : ReadB w A l.length l) {k : Nat} (hk : k < l.length) : ∃ ad, A = some ad ∧ w.cell? (ad.add k) = some (.int .u8 l[k]) := by
  obtain ⟨ad, e, hc⟩ := h.2.2 (by omega)
  obtain ⟨c, h1, h2, h3⟩ := hc k l[k] (List.getElem?_eq_getElem hk)
  refine ⟨ad, e, ?_⟩
  have := h3 0 (.int .u8 l[k]) (by rw [show c = [.int .u8 l[k]] from h2]; rfl)
  simpa [Kd.int, Kd.scalar] using this
theorem sumStep_range (n c : Int) : 0 ≤ sumStep n c ∧ sumStep n c < 4294967296 := by unfold sumStep; omega
theorem sumRow_range (b : List Int) : ∀ n, 0 ≤ n ∧ n < 4294967296 → 0 ≤ b.foldl sumStep n ∧ b.foldl sumStep n < 4294967296 := by
  induction b with
  | nil => intro n h; exact h
  | cons c r ih => intro n h; exact ih _ (sumStep_range n c)
theorem sumOf_range (rows : List (List Int)) : ∀ n, 0 ≤ n ∧ n < 4294967296 → 0 ≤ sumOf n rows ∧ sumOf n rows < 4294967296 := by
  induction rows with
  | nil => intro n h; exact h
  | cons b r ih => intro n h; exact ih _ (sumRow_range b n h)
theorem foldl_drop {α β : Type} (f : β → α → β) (b : β) {l : List α} {j : Nat} (hj : j < l.length) : (l.drop j).foldl f b = (l.drop (j + 1)).foldl f (f b l[j]) := by rw [List.drop_eq_getElem_cons hj]; rfl
set_option maxHeartbeats 1000000 in
set_option maxRecDepth 100000 in
theorem sum_any {S : Nat → Prop} {w : World} (n : Int) (hn : 0 ≤ n ∧ n < 4294967296) (A : Option Addr) (c : Nat) (rows : List (List Int)) (hr : Rws S w A rows) :
    Calls Try.prog 35 #[.int .u32 n, .slice A rows.length c] w fun e w' => e = .returned (.int .u32 (sumOf n rows)) ∧ w = w' := by
  have HC := Fact.mk hr
  have hle := hr.le
  have I0 : Fact (sumOf n (rows.drop 0) = sumOf n rows) := ⟨rfl⟩
  clear hr
  go_enter Try.func35, Try.ntmps35
  go_wp2_with fail
  go_loopw [0, 11] (fun v0 v11 wr => ∃ m : Int, ∃ j : Nat, v0 = .int .u32 m ∧ v11 = .int .i64 (j : Int) ∧ j ≤ rows.length ∧ (0 ≤ m ∧ m < 4294967296) ∧ Fact (sumOf m (rows.drop j) = sumOf n rows) ∧ wr = w) (fun _ v _ => rows.length - (intOf v).toNat)
  case atStart => exact ⟨n, 0, rfl, rfl, Nat.zero_le _, hn, I0, rfl⟩
  case round =>
    obtain ⟨m, j, rfl, rfl, hj, hm, R1, rfl⟩ := hrel
    clear I0 hn
    by_cases hlt : j < rows.length
    · have hlt2 : (j : Int) < (rows.length : Int) := by omega
      have hx : rows[j]? = some rows[j] := List.getElem?_eq_getElem hlt
      have HE : Fact (∀ m', sumOf m' (rows.drop j) = sumOf ((rows[j]).foldl sumStep m') (rows.drop (j + 1))) := ⟨fun m' => foldl_drop _ _ hlt⟩
      obtain ⟨ad, As, cs, hA, hs, hc⟩ := HC.out.at_ hx
      subst hA
      have c0 := hc wr (Only.refl _ _)
      have HSee := Fact.mk (hs.reads _ (Only.refl _ _))
      have hxl : rows[j].length ≤ 9223372036854775807 := HSee.out.2.1
      clear hs hc hx HC
      generalize rows[j] = x at *
      go_wp2_with fail
      have I1 : Fact (sumOf ((x.drop 0).foldl sumStep m) (rows.drop (j + 1)) = sumOf n rows) := ⟨by rw [List.drop_zero, ← HE.out]; exact R1.out⟩
      clear R1 HE
      go_loopw [0, 17] (fun v0 v17 wq => ∃ m : Int, ∃ i : Nat, v0 = .int .u32 m ∧ v17 = .int .i64 (i : Int) ∧ i ≤ x.length ∧ (0 ≤ m ∧ m < 4294967296) ∧ Fact (sumOf ((x.drop i).foldl sumStep m) (rows.drop (j + 1)) = sumOf n rows) ∧ wq = wr) (fun _ v _ => x.length - (intOf v).toNat)
      case atStart => exact ⟨m, 0, rfl, rfl, Nat.zero_le _, hm, I1, rfl⟩
      case round =>
        obtain ⟨m, i, rfl, rfl, hi, hm, R1, rfl⟩ := hrel
        clear I1
        by_cases hlt3 : i < x.length
        · have hlt4 : (i : Int) < (x.length : Int) := by omega
          obtain ⟨ad2, hA2, d0⟩ := read_cell HSee.out hlt3
          subst hA2
          have HE : Fact ((x.drop i).foldl sumStep m = (x.drop (i + 1)).foldl sumStep (sumStep m x[i])) := ⟨foldl_drop _ _ hlt3⟩
          generalize x[i] = y at *
          go_wp2_with fail
          have hz := sumStep_range m y
          exact ⟨⟨_, i + 1, rfl, by go_num, by omega, hz, ⟨by have := R1.out; rwa [HE.out] at this⟩, trivial⟩, by simp [intOf]; omega⟩
        · have he : i = x.length := by omega
          subst he
          have hlt4 : ¬ ((x.length : Int) < (x.length : Int)) := by omega
          have R2 : Fact (sumOf m (rows.drop (j + 1)) = sumOf n rows) := ⟨by have := R1.out; rwa [List.drop_eq_nil_of_le (Nat.le_refl _)] at this⟩
          clear R1
          go_wp2_with fail
          exact ⟨⟨m, j + 1, rfl, by go_num, by omega, hm, R2, trivial⟩, by simp [intOf]; omega⟩
    · have he : j = rows.length := by omega
      subst he
      have hlt2 : ¬ ((rows.length : Int) < (rows.length : Int)) := by omega
      have R2 : Fact (m = sumOf n rows) := ⟨by have := R1.out; rwa [List.drop_eq_nil_of_le (Nat.le_refl _)] at this⟩
      clear R1
      go_wp2_with fail
      go_ret
      rw [R2.out]
      exact ⟨rfl, rfl⟩
end Go.Proofs.Ytjpbpeiknnloeaa.Dk
