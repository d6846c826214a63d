/-
What the laws' 'small' does; bytes that changes were done to.
-/
import Derived.Test.YtjpbpeiknnloeaaRdW13
import Derived.Test.YtjpbpeiknnloeaaRdPure2
namespace Go.Proofs.Ytjpbpeiknnloeaa.Dk
open Go.RowKit Go.Maps Go.Proofs.YtjpbpeiknnloeaaW.PrintWords Go.Proofs.YtjpbpeiknnloeaaW.PrintLast Go.Proofs.YtjpbpeiknnloeaaW.PrintMore
set_option linter.unusedVariables false
set_option linter.unusedSimpArgs false

theorem bytesTo_get {f : Nat → List Int} {m : Nat} (h : ∀ i, i < m → (f i).length = 64) {i j : Nat} (hi : i < m) (hj : j < 64) : (bytesTo f m)[64 * i + j]? = (f i)[j]? := by
  induction m with
  | zero => omega
  | succ m ih =>
    have hl := bytesTo_length (f := f) (j := m) (fun i hi => h i (by omega))
    rw [bytesTo_step]
    by_cases e : i < m
    · rw [List.getElem?_append_left (by omega), ih (fun i hi => h i (by omega)) e]
    · obtain rfl : i = m := by omega
      rw [List.getElem?_append_right (by omega), hl]
      congr 1; omega
theorem bytesTo_put {f : Nat → List Int} {m : Nat} (h : ∀ i, i < m → (f i).length = 64) {c : Ch} {k : Nat} (hc : c.1 = (k : Int)) (hk : k < m) : doStep (bytesTo f m) c = bytesTo (fun i => if i = k then pad c.2 else f i) m := by
  have h2 : ∀ i, i < m → ((fun i => if i = k then pad c.2 else f i) i).length = 64 := fun i hi => by
    by_cases e : i = k
    · simp [e, pad_length]
    · simp [e, h i hi]
  have hl := bytesTo_length h
  have hl2 := bytesTo_length h2
  have hpl := pad_length c.2
  unfold doStep
  rw [hc, Int.toNat_natCast]
  apply List.ext_getElem?
  intro t
  by_cases ht : t < 64 * m
  · have hi : t / 64 < m := by omega
    have ht2 : t = 64 * (t / 64) + t % 64 := by omega
    have e1 := bytesTo_get h hi (Nat.mod_lt t (by decide : 64 > 0))
    have e2 := bytesTo_get h2 hi (Nat.mod_lt t (by decide : 64 > 0))
    rw [← ht2] at e1 e2
    rw [e2]
    show _ = (if t / 64 = k then pad c.2 else f (t / 64))[t % 64]?
    by_cases c1 : t < 64 * k
    · rw [List.append_assoc, List.getElem?_append_left (by rw [List.length_take]; omega), List.getElem?_take_of_lt c1, e1, if_neg (by omega)]
    · by_cases c2 : t < 64 * k + 64
      · rw [List.append_assoc, List.getElem?_append_right (by rw [List.length_take]; omega), List.getElem?_append_left (by rw [List.length_take]; omega), List.length_take, if_pos (by omega)]
        congr 1; omega
      · rw [List.getElem?_append_right (by rw [List.length_append, List.length_take]; omega), List.getElem?_drop, List.length_append, List.length_take, if_neg (by omega), ← e1]
        congr 1; omega
  · rw [List.getElem?_eq_none (by simp only [List.length_append, List.length_take, List.length_drop]; omega), List.getElem?_eq_none (by omega)]
theorem bytesTo_congr {f g : Nat → List Int} {m : Nat} (h : ∀ i, i < m → f i = g i) : bytesTo f m = bytesTo g m := by
  induction m with
  | zero => rfl
  | succ m ih => rw [bytesTo_step, bytesTo_step, ih (fun i hi => h i (by omega)), h m (by omega)]
/-- The data sectors behind a job are the bytes that changes were done to. -/
theorem bytes_done {m : Nat} {l : List Ch} (hb : ∀ c ∈ l, 0 ≤ c.1 ∧ c.1 < (m : Int)) {f : Sect} (hf : ∀ i, (f i).length = 64) : doneOf (bytesTo (fun i => f (100 + i)) m) l = bytesTo (fun i => wrote (ats l) f (100 + i)) m := by
  induction l generalizing f with
  | nil => rfl
  | cons c r ih =>
    obtain ⟨h1, h2⟩ := hb c List.mem_cons_self
    show doneOf (doStep (bytesTo (fun i => f (100 + i)) m) c) r = _
    rw [bytesTo_put (fun i _ => hf _) (k := c.1.toNat) (by omega) (by omega)]
    have e : bytesTo (fun i => if i = c.1.toNat then pad c.2 else f (100 + i)) m = bytesTo (fun i => (fun j : Nat => if (j : Int) = 100 + c.1 then pad c.2 else f j) (100 + i)) m := bytesTo_congr fun i hi => by
      dsimp only
      by_cases e : i = c.1.toNat
      · rw [if_pos e, if_pos (by omega)]
      · rw [if_neg e, if_neg (by omega)]
    rw [e, ih (fun x hx => hb x (List.mem_cons_of_mem _ hx)) (f := fun j : Nat => if (j : Int) = 100 + c.1 then pad c.2 else f j) (fun i => by
      by_cases e : (i : Int) = 100 + c.1
      · simp [e, pad_length]
      · simp [e, hf i])]
    rfl
/-- A step of a law, as it lies in memory. -/
structure OpV where
  k : Int
  n : Int
  A : Option Addr
  l : List Ch
  c : Nat
  K : Option Addr
  kn : Nat
  kc : Nat
  on : Bool
  E : Option Addr
  dn : Nat
  dc : Nat
def OpV.cells (o : OpV) : List Value := [.int .i64 o.k, .int .i64 o.n, .slice o.A o.l.length o.c, .slice o.K o.kn o.kc, .bool o.on, .slice o.E o.dn o.dc]
theorem flat_cells {ops : List OpV} {j : Nat} {o : OpV} (ho : ops[j]? = some o) {i : Nat} {v : Value} (hv : o.cells[i]? = some v) : (ops.flatMap OpV.cells).toArray[j * 6 + i]? = some v := by
  rw [List.getElem?_toArray]
  induction ops generalizing j with
  | nil => cases ho
  | cons a r ih =>
    have hl : a.cells.length = 6 := rfl
    have hi : i < 6 := (List.getElem?_eq_some_iff.1 hv).1
    rw [List.flatMap_cons]
    cases j with
    | zero =>
      obtain rfl := Option.some.inj ho
      rw [List.getElem?_append_left (by omega), Nat.zero_mul, Nat.zero_add]; exact hv
    | succ j =>
      rw [List.getElem?_append_right (by omega), hl, show (j + 1) * 6 + i - 6 = j * 6 + i from by omega]
      exact ih (by simpa using ho)
/-- What 'small' comes to. -/
def SmallTo (w : World) (ops : List OpV) (e : Ending) (w' : World) : Prop := ∃ b, e = .returned (.bool b) ∧ (b = true → ∀ o ∈ ops, o.l.length ≤ 100) ∧ Below w.heap.size w w'
section
variable {w : World} {S : Nat → Prop}
set_option maxHeartbeats 1000000 in
set_option maxRecDepth 100000 in
theorem small_any (g : Nat) (ops : List OpV) (c : Nat) (m : Int) (hg : w.heap[g]? = some (.cells (ops.flatMap OpV.cells).toArray 29 (0, 0))) (hle : ops.length ≤ 2) (hm : (ops.length : Int) ≤ m) (hm2 : m ≤ 1000) (hch : ∀ o ∈ ops, Chs S w o.A o.l) :
    Calls Try.prog 9 #[.slice (some ⟨g, 0, none⟩) ops.length c, .int .i64 m] w (SmallTo w ops) := by
  have hlt := (Array.getElem?_eq_some_iff.1 hg).1
  have HG : Fact (∀ W, Below w.heap.size w W → ∀ (j : Nat) o, ops[j]? = some o → ∀ (i : Nat) v, o.cells[i]? = some v → W.cell? ⟨g, j * 6 + i, none⟩ = some v) := ⟨fun W hW j o ho i v hv => by
    rw [hW.cell (p := ⟨g, j * 6 + i, none⟩) hlt, cell_of_row _ _ _ _ _ _ hg]
    exact flat_cells ho hv⟩
  have HC := Fact.mk hch
  have I0 : Fact (∀ o ∈ ops.take 0, o.l.length ≤ 100) := ⟨fun o h => by simp at h⟩
  clear hg hch hlt
  go_enter Try.func9, Try.ntmps9
  go_wp2_with fail
  go_loopw [11] (fun v11 wr => ∃ j : Nat, v11 = .int .i64 (j : Int) ∧ j ≤ ops.length ∧ Fact (∀ o ∈ ops.take j, o.l.length ≤ 100) ∧ Fact (Below w.heap.size w wr)) (fun v _ => ops.length - (intOf v).toNat)
  case atStart => exact ⟨0, rfl, Nat.zero_le _, I0, ⟨Below.refl _ _⟩⟩
  case round =>
    obtain ⟨j, rfl, hj, R1, R2⟩ := hrel
    clear I0
    by_cases hlt : j < ops.length
    · have hlt2 : (j : Int) < (ops.length : Int) := by omega
      have hx : ops[j]? = some ops[j] := List.getElem?_eq_getElem hlt
      have HX : Fact (ops.take (j + 1) = ops.take j ++ [ops[j]]) := ⟨by rw [List.take_add_one, hx]; rfl⟩
      have HCh := Fact.mk (HC.out _ (List.getElem_mem hlt))
      have k0 := HG.out wr R2.out j _ hx 0 _ rfl
      have k1 := HG.out wr R2.out j _ hx 1 _ rfl
      have k2 := HG.out wr R2.out j _ hx 2 _ rfl
      have k3 := HG.out wr R2.out j _ hx 3 _ rfl
      have k4 := HG.out wr R2.out j _ hx 4 _ rfl
      have k5 := HG.out wr R2.out j _ hx 5 _ rfl
      have hbase : w.heap.size ≤ wr.heap.size := R2.out.size
      clear hx
      generalize ops[j] = o at *
      obtain ⟨ok, on, oA, ol, oc, oK, okn, okc, oon, oD, odn, odc⟩ := o
      dsimp only at k0 k1 k2 k3 k4 k5 HCh
      rw [Nat.add_zero] at k0
      replace R2 := Fact.mk (R2.out.alloc hbase (.cells #[.int .i64 ok, .int .i64 on, .slice oA ol.length oc, .slice oK okn okc, .bool oon, .slice oD odn odc] 29))
      by_cases h1 : (100 : Int) < (ol.length : Int)
      · go_wp2_with fail
        go_ret
        exact ⟨false, rfl, (fun h => absurd h (by decide)), R2.out⟩
      · by_cases h2 : (120 : Int) < (okn : Int)
        · go_wp2_with fail
          go_ret
          exact ⟨false, rfl, (fun h => absurd h (by decide)), R2.out⟩
        · by_cases h3 : (64 : Int) < (odn : Int)
          · go_wp2_with fail
            go_ret
            exact ⟨false, rfl, (fun h => absurd h (by decide)), R2.out⟩
          · have hol : ol.length ≤ 100 := by omega
            go_wp2_with fail
            go_loopw [34] (fun v34 wr => ∃ i : Nat, v34 = .int .i64 (i : Int) ∧ i ≤ ol.length ∧ Fact (Below w.heap.size w wr)) (fun v _ => ol.length - (intOf v).toNat)
            case atStart => exact ⟨0, rfl, Nat.zero_le _, R2⟩
            case round =>
              obtain ⟨i, rfl, hi, R3⟩ := hrel
              clear R2
              by_cases hlt3 : i < ol.length
              · have hlt4 : (i : Int) < (ol.length : Int) := by omega
                have hx : ol[i]? = some ol[i] := List.getElem?_eq_getElem hlt3
                obtain ⟨ad, As, cs, hA, hs', hc⟩ := HCh.out.at_ hx
                subst hA
                obtain ⟨c0, c1⟩ := hc wr (Only.of_below R3.out S)
                have hbase3 : w.heap.size ≤ wr.heap.size := R3.out.size
                clear hs' hc hx
                generalize ol[i] = x at *
                replace R3 := Fact.mk (R3.out.alloc hbase3 (.cells #[.int .i64 x.1, .slice As x.2.length cs] 47))
                by_cases h4 : (100 : Int) < (x.2.length : Int)
                · go_wp2_with fail
                  go_ret
                  exact ⟨false, rfl, (fun h => absurd h (by decide)), R3.out⟩
                · go_wp2_with fail
                  exact ⟨⟨i + 1, by go_num, by omega, R3⟩, by simp [intOf]; omega⟩
              · have he : i = ol.length := by omega
                subst he
                have hlt4 : ¬ ((ol.length : Int) < (ol.length : Int)) := by omega
                go_wp2_with fail
                refine ⟨⟨j + 1, by go_num, by omega, ⟨fun o ho => ?_⟩, R3⟩, by simp [intOf]; omega⟩
                rw [HX.out] at ho
                rcases List.mem_append.1 ho with ho | ho
                · exact R1.out o ho
                · rw [List.mem_singleton.1 ho]; exact hol
    · have he : j = ops.length := by omega
      subst he
      have hlt2 : ¬ ((ops.length : Int) < (ops.length : Int)) := by omega
      have hmm : ((ops.length : Int) ≤ m) := by omega
      go_wp2_with fail
      go_ret
      exact ⟨true, rfl, fun _ o ho => R1.out o (by rwa [List.take_length]), R2.out⟩
theorem small_any1 (g : Nat) (o : OpV) (c : Nat) (hg : w.heap[g]? = some (.cells o.cells.toArray 29 (0, 0))) (hch : Chs S w o.A o.l) :
    Calls Try.prog 9 #[.slice (some ⟨g, 0, none⟩) 1 c, .int .i64 1] w fun e w' => ∃ b, e = .returned (.bool b) ∧ (b = true → o.l.length ≤ 100) ∧ Below w.heap.size w w' := by
  refine (small_any g [o] c 1 (by simpa using hg) (by simp) (by simp) (by omega) (fun x hx => by rw [List.mem_singleton.1 hx]; exact hch)).mono ?_
  rintro e w2 ⟨b, rfl, h, b2⟩
  exact ⟨b, rfl, fun hb => h hb o (by simp), b2⟩
end
end Go.Proofs.Ytjpbpeiknnloeaa.Dk
