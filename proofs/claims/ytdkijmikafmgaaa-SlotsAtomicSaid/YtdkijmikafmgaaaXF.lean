/-
What the slots' laws' small does.
-/
import Derived.Test.YtdkijmikafmgaaaXE
namespace Go.Proofs.Ytdkijmikafmgaaa.Dk
open Go.RowKit Go.Maps Go.Proofs.YtdkijmikafmgaaaW.PrintWords Go.Proofs.YtdkijmikafmgaaaW.PrintLast Go.Proofs.YtdkijmikafmgaaaW.PrintMore
set_option linter.unusedVariables false
set_option linter.unusedSimpArgs false

/-- A step of a law, as it lies in memory. -/
structure OpS where
  k : Int
  n : Int
  A : Option Addr
  l : List Ch
  c : Nat
  K : Option Addr
  kn : Nat
  kc : Nat
  on : Bool
def OpS.cells (o : OpS) : List Value := [.int .i64 o.k, .int .i64 o.n, .slice o.A o.l.length o.c, .slice o.K o.kn o.kc, .bool o.on]
theorem flat_cells {ops : List OpS} {j : Nat} {o : OpS} (ho : ops[j]? = some o) {i : Nat} {v : Value} (hv : o.cells[i]? = some v) : (ops.flatMap OpS.cells).toArray[j * 5 + i]? = some v := by
  rw [List.getElem?_toArray]
  induction ops generalizing j with
  | nil => cases ho
  | cons a r ih =>
    have hl : a.cells.length = 5 := rfl
    have hi : i < 5 := (List.getElem?_eq_some_iff.1 hv).1
    rw [List.flatMap_cons]
    cases j with
    | zero =>
      obtain rfl := Option.some.inj ho
      rw [List.getElem?_append_left (by omega), Nat.zero_mul, Nat.zero_add]; exact hv
    | succ j =>
      rw [List.getElem?_append_right (by omega), hl, show (j + 1) * 5 + i - 5 = j * 5 + i from by omega]
      exact ih (by simpa using ho)
/-- What 'small' comes to. -/
def SmallTo (w : World) (ops : List OpS) (e : Ending) (w' : World) : Prop := ∃ b, e = .returned (.bool b) ∧ (b = true → ∀ o ∈ ops, o.l.length ≤ 20) ∧ Below w.heap.size w w'
section
variable {w : World} {S : Nat → Prop}
set_option maxHeartbeats 1000000 in
set_option maxRecDepth 100000 in
theorem small_any (g : Nat) (ops : List OpS) (c : Nat) (m : Int) (hg : w.heap[g]? = some (.cells (ops.flatMap OpS.cells).toArray 33 (0, 0))) (hle : ops.length ≤ 2) (hm : (ops.length : Int) ≤ m) (hm2 : m ≤ 1000) (hch : ∀ o ∈ ops, Chs S w o.A o.l) :
    Calls Try.prog 10 #[.slice (some ⟨g, 0, none⟩) ops.length c, .int .i64 m] w (SmallTo w ops) := by
  have hlt := (Array.getElem?_eq_some_iff.1 hg).1
  have HG : Fact (∀ W, Below w.heap.size w W → ∀ (j : Nat) o, ops[j]? = some o → ∀ (i : Nat) v, o.cells[i]? = some v → W.cell? ⟨g, j * 5 + i, none⟩ = some v) := ⟨fun W hW j o ho i v hv => by
    rw [hW.cell (p := ⟨g, j * 5 + i, none⟩) hlt, cell_of_row _ _ _ _ _ _ hg]
    exact flat_cells ho hv⟩
  have HC := Fact.mk hch
  have I0 : Fact (∀ o ∈ ops.take 0, o.l.length ≤ 20) := ⟨fun o h => by simp at h⟩
  clear hg hch hlt
  go_enter Try.func10, Try.ntmps10
  go_wp2_with fail
  go_loopw [11] (fun v11 wr => ∃ j : Nat, v11 = .int .i64 (j : Int) ∧ j ≤ ops.length ∧ Fact (∀ o ∈ ops.take j, o.l.length ≤ 20) ∧ Fact (Below w.heap.size w wr)) (fun v _ => ops.length - (intOf v).toNat)
  case atStart => exact ⟨0, rfl, Nat.zero_le _, I0, ⟨Below.refl _ _⟩⟩
  case round =>
    obtain ⟨j, rfl, hj, R1, R2⟩ := hrel
    clear I0
    by_cases hlt : j < ops.length
    · have hlt2 : (j : Int) < (ops.length : Int) := by omega
      have hx : ops[j]? = some ops[j] := List.getElem?_eq_getElem hlt
      have HX : Fact (ops.take (j + 1) = ops.take j ++ [ops[j]]) := ⟨by rw [List.take_add_one, hx]; rfl⟩
      have HCh := Fact.mk (HC.out _ (List.getElem_mem hlt))
      have k0 := HG.out wr R2.out j _ hx 0 _ rfl
      have k1 := HG.out wr R2.out j _ hx 1 _ rfl
      have k2 := HG.out wr R2.out j _ hx 2 _ rfl
      have k3 := HG.out wr R2.out j _ hx 3 _ rfl
      have k4 := HG.out wr R2.out j _ hx 4 _ rfl
      have hbase : w.heap.size ≤ wr.heap.size := R2.out.size
      clear hx
      generalize ops[j] = o at *
      obtain ⟨ok, on, oA, ol, oc, oK, okn, okc, oon⟩ := o
      dsimp only at k0 k1 k2 k3 k4 HCh
      rw [Nat.add_zero] at k0
      replace R2 := Fact.mk (R2.out.alloc hbase (.cells #[.int .i64 ok, .int .i64 on, .slice oA ol.length oc, .slice oK okn okc, .bool oon] 33))
      by_cases h1 : (20 : Int) < (ol.length : Int)
      · go_wp2_with fail
        go_ret
        exact ⟨false, rfl, (fun h => absurd h (by decide)), R2.out⟩
      · by_cases h2 : (120 : Int) < (okn : Int)
        · go_wp2_with fail
          go_ret
          exact ⟨false, rfl, (fun h => absurd h (by decide)), R2.out⟩
        · have hol : ol.length ≤ 20 := by omega
          go_wp2_with fail
          go_loopw [28] (fun v28 wr => ∃ i : Nat, v28 = .int .i64 (i : Int) ∧ i ≤ ol.length ∧ Fact (Below w.heap.size w wr)) (fun v _ => ol.length - (intOf v).toNat)
          case atStart => exact ⟨0, rfl, Nat.zero_le _, R2⟩
          case round =>
            obtain ⟨i, rfl, hi, R3⟩ := hrel
            clear R2
            by_cases hlt3 : i < ol.length
            · have hlt4 : (i : Int) < (ol.length : Int) := by omega
              have hx : ol[i]? = some ol[i] := List.getElem?_eq_getElem hlt3
              obtain ⟨ad, As, cs, hA, hs', hc⟩ := HCh.out.at_ hx
              subst hA
              obtain ⟨c0, c1⟩ := hc wr (Only.of_below R3.out S)
              have hbase3 : w.heap.size ≤ wr.heap.size := R3.out.size
              clear hs' hc hx
              generalize ol[i] = x at *
              replace R3 := Fact.mk (R3.out.alloc hbase3 (.cells #[.int .i64 x.1, .slice As x.2.length cs] 39))
              by_cases h4 : (4100 : Int) < (x.2.length : Int)
              · go_wp2_with fail
                go_ret
                exact ⟨false, rfl, (fun h => absurd h (by decide)), R3.out⟩
              · go_wp2_with fail
                exact ⟨⟨i + 1, by go_num, by omega, R3⟩, by simp [intOf]; omega⟩
            · have he : i = ol.length := by omega
              subst he
              have hlt4 : ¬ ((ol.length : Int) < (ol.length : Int)) := by omega
              go_wp2_with fail
              refine ⟨⟨j + 1, by go_num, by omega, ⟨fun o ho => ?_⟩, R3⟩, by simp [intOf]; omega⟩
              rw [HX.out] at ho
              rcases List.mem_append.1 ho with ho | ho
              · exact R1.out o ho
              · rw [List.mem_singleton.1 ho]; exact hol
    · have he : j = ops.length := by omega
      subst he
      have hlt2 : ¬ ((ops.length : Int) < (ops.length : Int)) := by omega
      have hmm : ((ops.length : Int) ≤ m) := by omega
      go_wp2_with fail
      go_ret
      exact ⟨true, rfl, fun _ o ho => R1.out o (by rwa [List.take_length]), R2.out⟩
end
end Go.Proofs.Ytdkijmikafmgaaa.Dk
