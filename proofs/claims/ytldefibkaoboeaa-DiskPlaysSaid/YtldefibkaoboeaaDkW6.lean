/-
What '(*Disk).stand' does: of the pending sectors those stand that are kept; none is pending any more.
-/
import Derived.Test.YtldefibkaoboeaaDkW5
import Derived.Deep.LoopGhost
namespace Go.Proofs.Ytldefibkaoboeaa.Dk
open Go.RowKit Go.Maps Go.Proofs.YtldefibkaoboeaaW.PrintWords Go.Proofs.YtldefibkaoboeaaW.PrintLast Go.Proofs.YtldefibkaoboeaaW.PrintMore
set_option linter.unusedVariables false
set_option linter.unusedSimpArgs false

namespace PD
theorem mem_keys (D : PD) (i : Nat) : i ∈ D.keys ↔ i < D.n ∧ (D.pe i).isSome = true := by simp [PD.keys]
theorem keys_sorted (D : PD) : D.keys.Pairwise (· < ·) := List.Pairwise.filter _ List.pairwise_lt_range
theorem keys_split (D : PD) {i : Nat} (hi : i < D.n) (hp : (D.pe i).isSome = true) : ∃ B, D.keys = ((List.range i).filter fun j => (D.pe j).isSome) ++ i :: B := by
  have e : List.range D.n = List.range i ++ i :: (List.range (D.n - i - 1)).map (fun k => k + (i + 1)) := by
    have h1 : List.range D.n = List.range (i + (1 + (D.n - i - 1))) := by congr 1; omega
    rw [h1, List.range_add, List.range_add]
    simp [Nat.add_comm, Nat.add_left_comm]
  refine ⟨((List.range (D.n - i - 1)).map (fun k => k + (i + 1))).filter fun j => (D.pe j).isSome, ?_⟩
  unfold PD.keys
  rw [e, List.filter_append, List.filter_cons, if_pos hp]
theorem keys_at (D : PD) {i : Nat} (hi : i < D.n) (hp : (D.pe i).isSome = true) : D.keys[D.rank i]? = some i := by
  obtain ⟨B, e⟩ := D.keys_split hi hp
  rw [e, List.getElem?_append_right (by simp [PD.rank])]
  simp [PD.rank]
theorem rank_lt (D : PD) {i : Nat} (hi : i < D.n) (hp : (D.pe i).isSome = true) : D.rank i < D.keys.length := (List.getElem?_eq_some_iff.1 (D.keys_at hi hp)).1
theorem rank_of (D : PD) {i j : Nat} (h : D.keys[j]? = some i) : i < D.n ∧ (D.pe i).isSome = true ∧ D.rank i = j := by
  have hm := (D.mem_keys i).1 (List.mem_of_getElem? h)
  refine ⟨hm.1, hm.2, ?_⟩
  have h2 := D.keys_at hm.1 hm.2
  obtain ⟨l1, e1⟩ := List.getElem?_eq_some_iff.1 h
  obtain ⟨l2, e2⟩ := List.getElem?_eq_some_iff.1 h2
  have hs := List.pairwise_iff_getElem.1 D.keys_sorted
  rcases Nat.lt_trichotomy (D.rank i) j with hlt | he | hlt
  · have := hs _ _ l2 l1 hlt; omega
  · exact he
  · have := hs _ _ l1 l2 hlt; omega
/-- Behind the first j of them. -/
def standAt (D : PD) (keep : Nat → Bool) (j : Nat) : PD :=
  { D with st := fun i => match D.pe i with | some b => if D.rank i < j ∧ keep (D.rank i) = true then b else D.st i | none => D.st i }
theorem standAt_zero (D : PD) (keep : Nat → Bool) : D.standAt keep 0 = D := by
  unfold standAt
  have : (fun i => match D.pe i with | some b => if D.rank i < 0 ∧ keep (D.rank i) = true then b else D.st i | none => D.st i) = D.st := by
    funext i; split <;> simp
  rw [this]
theorem standAt_skip (D : PD) (keep : Nat → Bool) {j : Nat} (hk : keep j = false) : D.standAt keep (j + 1) = D.standAt keep j := by
  unfold standAt
  have : (fun i => match D.pe i with | some b => if D.rank i < j + 1 ∧ keep (D.rank i) = true then b else D.st i | none => D.st i) = (fun i => match D.pe i with | some b => if D.rank i < j ∧ keep (D.rank i) = true then b else D.st i | none => D.st i) := by
    funext i
    split
    · rename_i b hb
      by_cases h1 : D.rank i = j
      · rw [h1, hk]; simp
      · have : (D.rank i < j + 1) = (D.rank i < j) := by apply propext; omega
        simp only [this]
    · rfl
  rw [this]
theorem standAt_take (D : PD) (hg : D.Good) (keep : Nat → Bool) {i j : Nat} {b : List Int} (h : D.keys[j]? = some i) (hb : D.pe i = some b) (hk : keep j = true) :
    D.standAt keep (j + 1) = { D.standAt keep j with st := fun k => if k = i then b else (D.standAt keep j).st k } := by
  obtain ⟨r1, r2, r3⟩ := D.rank_of h
  unfold standAt
  simp only [PD.mk.injEq, and_true, true_and]
  funext k
  by_cases hki : k = i
  · subst hki
    rw [if_pos rfl, hb, r3]
    simp [hk]
  · rw [if_neg hki]
    cases hp : D.pe k with
    | none => rfl
    | some c =>
      have hkn := (hg.fullp k c hp).1
      have h2 := D.keys_at hkn (by rw [hp]; rfl)
      have hne : D.rank k ≠ j := by
        intro e
        rw [e, h] at h2
        exact hki (Option.some.inj h2).symm
      have : (D.rank k < j + 1) = (D.rank k < j) := by apply propext; omega
      simp only [this]
theorem standAt_end (D : PD) (hg : D.Good) (keep : Nat → Bool) : D.stand keep = { D.standAt keep D.keys.length with pe := fun _ => none } := by
  unfold standAt stand
  simp only [PD.mk.injEq, and_true, true_and]
  funext i
  cases hp : D.pe i with
  | none => rfl
  | some b =>
    have := D.rank_lt (hg.fullp i b hp).1 (by rw [hp]; rfl)
    simp [this]
theorem Good.standAt {D : PD} (h : Good D) (keep : Nat → Bool) (j : Nat) : Good (D.standAt keep j) :=
  ⟨h.one, h.most, h.lo, h.hi, fun i => by
    simp only [PD.standAt]
    split
    · rename_i b hb
      split
      · exact (h.fullp i b hb).2
      · exact h.full i
    · exact h.full i, h.fullp⟩
end PD
theorem stcells_set {cs : Array Value} {n : Nat} {st : Nat → List Int} (h : StCells cs n st) {i : Nat} (hi : i < n) {b : List Int} (hb : b.length = 64) :
    StCells (cs.toList.take (i * 64) ++ b.map (Value.int .u8) ++ cs.toList.drop (i * 64 + 64)).toArray n (fun k => if k = i then b else st k) := by
  obtain ⟨h1, h2⟩ := h
  have hl : cs.toList.length = 64 * n := by simpa using h1
  have hle : i * 64 + 64 ≤ 64 * n := by omega
  refine ⟨by simp [hb]; omega, fun k j hk hj => ?_⟩
  rw [List.getElem?_toArray, List.append_assoc]
  show _ = some (Value.int .u8 ((if k = i then b else st k).getD j 0))
  rcases Nat.lt_trichotomy k i with h | rfl | h
  · rw [if_neg (by omega), List.getElem?_append_left (by simp; omega), List.getElem?_take_of_lt (by omega), Array.getElem?_toList]
    exact h2 k j hk hj
  · rw [if_pos rfl, List.getElem?_append_right (by simp; omega)]
    have e : 64 * k + j - (List.take (k * 64) cs.toList).length = j := by simp; omega
    rw [e, List.getElem?_append_left (by simp [hb]; exact hj), List.getElem?_map, List.getD_eq_getElem?_getD, List.getElem?_eq_getElem (by omega)]
    rfl
  · rw [if_neg (by omega), List.getElem?_append_right (by simp; omega), List.getElem?_append_right (by simp [hb]; omega), List.getElem?_drop]
    have e : i * 64 + 64 + (64 * k + j - (List.take (i * 64) cs.toList).length - (List.map (Value.int .u8) b).length) = 64 * k + j := by simp [hb]; omega
    rw [e, Array.getElem?_toList]
    exact h2 k j hk hj
theorem IsDisk.there_st {w : World} {L : DL} {D : PD} (h : IsDisk w L D) {i : Nat} (hi : i < D.n) : w.there L.bs (i * 64) 64 := by
  obtain ⟨cs, h1, h2, h3⟩ := h.stands
  intro j hj
  refine ⟨?_, frozen_of_row w L.bs _ _ _ h1⟩
  rw [cell_of_row w L.bs _ _ _ _ h1, Nat.mul_comm i 64, h3 i j hi hj]; rfl
theorem IsDisk.setSt {w : World} {L : DL} {D : PD} (h : IsDisk w L D) {i : Nat} (hi : i < D.n) {b : List Int} (hb : b.length = 64) :
    IsDisk (w.setCells L.bs (i * 64) (b.map (Value.int .u8))) L { D with st := fun k => if k = i then b else D.st k } := by
  obtain ⟨n1, n2, n3, n4⟩ := h.ne_maps
  obtain ⟨cs, h1, h2⟩ := h.stands
  obtain ⟨f, h3, h4⟩ := h.bads
  obtain ⟨r1, r2⟩ := setCells_row L.bs _ (b.map (Value.int .u8)) (i * 64) cs w h1 (by rw [List.length_map, hb, h2.1]; omega)
  rw [List.length_map, hb] at r1
  refine ⟨⟨h.good.one, h.good.most, h.good.lo, h.good.hi, fun k => ?_, h.good.fullp⟩, (r2 _ h.ne1).trans h.self, ⟨_, r1, stcells_set h2 hi hb⟩, h.pend.move (r2 _ (Ne.symm n3)), ⟨f, h3.move (r2 _ (Ne.symm n4)), h4⟩, h.ne1, h.ne2⟩
  show (if k = i then b else D.st k).length = 64
  split
  · exact hb
  · exact h.good.full k
theorem Only.setCells {S : Nat → Prop} (w : World) {g : Nat} (hg : S g) : ∀ (vs : List Value) (o : Nat), Only S w (w.setCells g o vs) := by
  intro vs
  induction vs generalizing w with
  | nil => exact fun _ => Only.refl _ _
  | cons v r ih => exact fun o => (Only.setCell w (a := ⟨g, o, none⟩) hg v).trans (ih _ _)
theorem IsDisk.clearP {w w' : World} {L : DL} {D : PD} (h : IsDisk w L D) (hm : IntMap Try.prog w' L.bp (fun _ => none) D.n) (ht : w.mapTurned w' L.bp) : IsDisk w' L { D with pe := fun _ => none } := by
  obtain ⟨n1, n2, n3, n4⟩ := h.ne_maps
  obtain ⟨cs, h1, h2⟩ := h.stands
  obtain ⟨f, h3, h4⟩ := h.bads
  have g := ht.grown
  have hs : ∀ k, k < w.heap.size → k ≠ L.bp → w'.heap[k]? = w.heap[k]? := fun k hk hn => g.block k hk (fun e => hn (Option.some.inj e))
  exact ⟨⟨h.good.one, h.good.most, h.good.lo, h.good.hi, h.good.full, fun i b hb => by cases hb⟩, (hs _ (h.lt _ L.S_p) n1).trans h.self, ⟨cs, (hs _ (h.lt _ L.S_bs) n3).trans h1, h2⟩, hm, ⟨f, h3.move (hs _ (h.lt _ L.S_bb) (Ne.symm h.ne2)), h4⟩, h.ne1, h.ne2⟩
section
variable {P : Program} {w : World} {ops : Array Oper} {rest : List Oper} {o : Oper} {a : Act} {Q : Exit → Act → World → Prop}
theorem wpList_clear_map (hg : o.guard = none) (m : Operand) (t e : TypeId) (hop : o.op = Op.call { callee := Callee.builtin Builtin.clear, args := #[m], argTypes := #[t] }) (ht : P.underlying t = some (.map 3 e))
    (b N : Nat) (f : Nat → Option Value) (h : IntMap P w b f N) (hm : a.eval m = .map (some b))
    (hK : ∀ w', IntMap P w' b (fun _ => none) N → w.mapTurned w' b → wpList P ops Q rest (a.put o.dst (.tuple #[])) w') : wpList P ops Q (o :: rest) a w := by
  refine wpList_plain hg fun K' hK' => ?_
  obtain ⟨w', hrun, r1, r2⟩ := h.clear ht o.type
  unfold Oper.wp
  simp [execOp, hop, resolve, invoke, builtin, hm, hrun, Result.andThen]
  exact hK' _ _ (hK w' r1 r2)
end
theorem stand_done {w w1 w2 : World} {L : DL} {D : PD} (hg : D.Good) (keep : Nat → Bool) (h : IsDisk w1 L (D.standAt keep D.keys.length)) (ho : Only L.S w w1) (hm : IntMap Try.prog w2 L.bp (fun _ => none) D.n) (ht : w1.mapTurned w2 L.bp) : Now w L (D.stand keep) w2 := by
  rw [PD.standAt_end D hg keep]
  exact ⟨h.clearP hm ht, ho.trans (Only.mapTurned ht L.S_bp)⟩
theorem stand_none {w : World} {L : DL} {D : PD} (h : IsDisk w L D) (he : D.keys = []) (g : FuncId) (cap : Array Value) (keep : Nat → Bool) :
    Calls Try.prog 31 #[.pointer (some ⟨L.p, 0, none⟩), .func (.func g) #[] cap] w fun e w' => e = .returned (.tuple #[]) ∧ Now w L (D.stand keep) w' := by
  have HG := Fact.mk h.good
  have HP := Fact.mk (Pending_any h)
  have hk : D.ikeys = [] := by rw [PD.ikeys, he]; rfl
  rw [hk] at HP
  have HD := Fact.mk h
  have HE := Fact.mk he
  clear h he hk
  go_enter Try.func31, Try.ntmps31
  go_wp2_with (go_at_call 15; refine HP.out.mono ?_; rintro e w1 ⟨v, rfl, ho, hb⟩; obtain ⟨A, c, rfl, _⟩ := Kd.R_reads ho; have H1 := Fact.mk (HD.out.below hb); have H2 := Fact.mk (Only.of_below hb L.S); clear ho hb)
  go_loopw [9] (fun v9 wr => v9 = .int .i64 0 ∧ Fact (IsDisk wr L D) ∧ Fact (Only L.S w wr)) (fun _ _ => 0)
  case atStart => exact ⟨rfl, H1, H2⟩
  case round =>
    obtain ⟨rfl, H3, H4⟩ := hrel
    have c1 := H3.out.c1
    go_wp2_with (refine wpList_clear_map rfl (.tmp 33) 59 65 rfl Try.underlying59 L.bp D.n _ H3.out.pend rfl ?_; intro w3 hm3 ht3; have HM := Fact.mk hm3; have HT3 := Fact.mk ht3; clear hm3 ht3)
    go_end0
    refine ⟨rfl, stand_done HG.out keep ?_ H4.out HM.out HT3.out⟩
    rw [HE.out, List.length_nil, PD.standAt_zero]
    exact H3.out
theorem IsDisk.look_pend1 {w : World} {L : DL} {D : PD} (h : IsDisk w L D) (i : Nat) (hi : i < 9223372036854775808) :
    (Instr.lookup 59 (.map (some L.bp)) (.int .i64 (i : Int)) false).run Try.prog w = .ok (((D.pe i).map secV).getD zsec) w :=
  h.pend.look int_t Try.underlying59 (zero_sec w) i hi
theorem own_cells {w : World} {base : Nat} {ok : Nat → Prop} {v : Value} {l : List Int} (h : OwnI w base ok v l) (h0 : l ≠ []) : ∃ gb c, v = .slice (some ⟨gb, 0, none⟩) l.length c ∧ ok gb ∧ base ≤ gb ∧ gb < w.heap.size ∧ ∀ j x, l[j]? = some x → w.cell? ⟨gb, j, none⟩ = some (.int .i64 x) := by
  have ho := Kd.own_of_R h
  have hp : 0 < l.length := List.length_pos_iff.2 h0
  obtain ⟨gb, cap, rfl, _, _⟩ := ho.form hp
  have hk : ok gb := h.1 gb (by simp [Value.ownBlock])
  refine ⟨gb, cap, rfl, hk, own_base ho gb (by simp [Value.ownBlock]), own_lt ho gb (by simp [Value.ownBlock]), fun j x hx => by rw [← add_plain]; exact ho.cells (g := gb) rfl j (.int .i64 x) (by simp [encs, hx])⟩
set_option maxHeartbeats 1000000 in
set_option maxRecDepth 100000 in
theorem stand_some {w : World} {L : DL} {D : PD} (h : IsDisk w L D) (hne : D.keys ≠ []) (g : FuncId) (cap : Array Value) (keep : Nat → Bool) (hen : ∀ args W, (callFunc g args).run Try.prog W = .ok (.enter g args) W)
    (hk : ∀ (k : Nat) (W : World), k < 4096 → Only L.S w W → Calls Try.prog g (#[.int .i64 (k : Int)] ++ cap) W fun e W' => e = .returned (.bool (keep k)) ∧ W = W') :
    Calls Try.prog 31 #[.pointer (some ⟨L.p, 0, none⟩), .func (.func g) #[] cap] w fun e w' => e = .returned (.tuple #[]) ∧ Now w L (D.stand keep) w' := by
  have HG := Fact.mk h.good
  have HK := Fact.mk hk
  have HP := Fact.mk (Pending_any h)
  have HD := Fact.mk h
  have hml : D.ikeys.length = D.keys.length := by simp [PD.ikeys]
  have hne2 : D.ikeys ≠ [] := by intro e; rw [e] at hml; exact hne (List.length_eq_zero_iff.1 hml.symm)
  have hmn : D.keys.length ≤ D.n := by
    have := List.length_filter_le (fun i => (D.pe i).isSome) (List.range D.n)
    rw [List.length_range] at this; exact this
  have hn4 : D.n ≤ 4096 := h.good.most
  have HM := Fact.mk (And.intro hml hne2)
  clear h hne hk hml hne2
  go_enter Try.func31, Try.ntmps31
  go_wp2_with (go_at_call 15; refine HP.out.mono ?_; rintro e w1 ⟨v, rfl, ho, hb⟩; obtain ⟨gb, c, rfl, hgk, _, hgl, hcc⟩ := own_cells ho HM.out.2; rw [HM.out.1]; have H1 := Fact.mk (HD.out.below hb); have H2 := Fact.mk (Only.of_below hb L.S); have H3 := Fact.mk hcc; have HGB := Fact.mk (And.intro hgk hgl); clear ho hb hcc hgk hgl)
  go_loopw [9] (fun v9 wr => ∃ j : Nat, v9 = .int .i64 (j : Int) ∧ j ≤ D.keys.length ∧ Fact (IsDisk wr L (D.standAt keep j)) ∧ Fact (Only L.S w wr) ∧ Fact (∀ j x, D.ikeys[j]? = some x → wr.cell? ⟨gb, j, none⟩ = some (.int .i64 x)) ∧ Fact (gb < wr.heap.size)) (fun v _ => D.keys.length - (intOf v).toNat)
  case atStart => exact ⟨0, rfl, Nat.zero_le _, ⟨by rw [PD.standAt_zero]; exact H1.out⟩, H2, H3, ⟨HGB.out.2⟩⟩
  case round =>
    obtain ⟨j, rfl, hj, R1, R2, R3, R4⟩ := hrel
    clear H1 H2 H3
    by_cases hlt : j < D.keys.length
    · obtain ⟨i, hi⟩ : ∃ i, D.keys[j]? = some i := ⟨_, List.getElem?_eq_getElem hlt⟩
      have HI := Fact.mk hi
      have HR := Fact.mk (D.rank_of hi)
      have hin : i < D.n := (D.rank_of hi).1
      obtain ⟨b, hb⟩ : ∃ b, D.pe i = some b := Option.isSome_iff_exists.1 (D.rank_of hi).2.1
      have HB := Fact.mk hb
      have hc := R3.out j (i : Int) (by rw [PD.ikeys, List.getElem?_map, hi]; rfl)
      have HKJ := Fact.mk (HK.out j wr (by omega) R2.out)
      clear hi hb
      cases hkj : keep j with
      | false =>
        rw [hkj] at HKJ
        have HKF := Fact.mk hkj
        clear hkj
        go_wp2_with (go_at_fn g; refine HKJ.out.mono ?_; rintro e w' ⟨rfl, rfl⟩)
        exact ⟨⟨j + 1, by go_num, by omega, ⟨by rw [PD.standAt_skip D keep HKF.out]; exact R1.out⟩, R2, R3, R4⟩, by simp [intOf]; omega⟩
      | true =>
        rw [hkj] at HKJ
        have HKT := Fact.mk hkj
        clear hkj
        go_wp2_with (go_at_fn g; refine HKJ.out.mono ?_; rintro e w' ⟨rfl, rfl⟩)
        refine region_tail 12 (by kernel_rfl) (by kernel_rfl) ?_
        intro w2 hw2
        have S1 : Fact (IsDisk w2 L (D.standAt keep j)) := by subst hw2; exact ⟨R1.out.drew⟩
        have S2 : Fact (Only L.S w w2) := by subst hw2; exact ⟨R2.out.drew⟩
        have S3 : Fact (∀ j x, D.ikeys[j]? = some x → w2.cell? ⟨gb, j, none⟩ = some (.int .i64 x)) := by subst hw2; exact R3
        have S4 : Fact (gb < w2.heap.size) := by subst hw2; exact R4
        clear hc hw2 R1 R2 R3 R4 HKJ
        have c0 := S1.out.c0
        have c1 := S1.out.c1
        have l1 := S1.out.look_pend1 i (by omega)
        rw [show (D.standAt keep j).pe i = some b from HB.out] at l1
        simp only [Option.map_some, Option.getD_some, secV] at l1
        have HL : Fact (b.length = 64) := ⟨(HG.out.fullp i b HB.out).2⟩
        generalize hcs : (b.map (Value.int .u8)).toArray = cs at *
        have HCS := Fact.mk hcs
        have HSZ : Fact ((Try.prog.info? 65).map (·.size) = some cs.size ∧ w2.there L.bs (i * 64) cs.size ∧ cs.all (·.oneCell') = true) := by
          have hz : cs.size = 64 := by rw [← hcs]; simp [HL.out]
          refine ⟨by rw [size_sec, hz], by rw [hz]; exact S1.out.there_st hin, by rw [← hcs]; exact all_oneCell_toArray (by intro v hv; obtain ⟨x, _, rfl⟩ := List.mem_map.1 hv; rfl)⟩
        clear hcs
        have hn0 : (D.standAt keep j).n = D.n := rfl
        rw [hn0] at c0
        simp only [List.take_succ_cons, List.take_zero, List.drop_succ_cons, List.drop_zero]
        iterate 12 still_step
        refine wpStill_nil ?_
        go_wp2_with (refine wpList_store_mid rfl 65 (.tmp 28) (.tmp 27) rfl L.bs (i * 64) cs rfl rfl HSZ.out.2.1 HSZ.out.1 HSZ.out.2.2 ?_)
        have hcl : cs.toList = b.map (Value.int .u8) := by rw [← HCS.out]
        have hgs : gb ≠ L.bs := by intro e; have := HD.out.lt _ L.S_bs; have := HGB.out.1; omega
        have ho := Only.setCells (S := L.S) w2 L.S_bs cs.toList (i * 64)
        refine ⟨⟨j + 1, by go_num, by omega, ⟨?_⟩, ⟨S2.out.trans ho⟩, ⟨fun q x hq => ?_⟩, ⟨Nat.lt_of_lt_of_le S4.out ho.size⟩⟩, by simp [intOf]; omega⟩
        · rw [PD.standAt_take D HG.out keep HI.out HB.out HKT.out, hcl]
          exact S1.out.setSt hin HL.out
        · rw [World.cell?_setCells_out L.bs cs.toList (i * 64) w2 ⟨gb, q, none⟩ (fun hb _ => absurd hb hgs)]
          exact S3.out q x hq
    · have he : j = D.keys.length := by omega
      have c1 := R1.out.c1
      go_wp2_with (refine wpList_clear_map rfl (.tmp 33) 59 65 rfl Try.underlying59 L.bp D.n _ R1.out.pend rfl ?_; intro w3 hm3 ht3; have HM3 := Fact.mk hm3; have HT3 := Fact.mk ht3; clear hm3 ht3)
      go_end0
      exact ⟨rfl, stand_done HG.out keep (he ▸ R1.out) R2.out HM3.out HT3.out⟩
/-- '(*Disk).stand'. -/
theorem stand_any {w : World} {L : DL} {D : PD} (h : IsDisk w L D) (g : FuncId) (cap : Array Value) (keep : Nat → Bool) (hen : ∀ args W, (callFunc g args).run Try.prog W = .ok (.enter g args) W)
    (hk : ∀ (k : Nat) (W : World), k < 4096 → Only L.S w W → Calls Try.prog g (#[.int .i64 (k : Int)] ++ cap) W fun e W' => e = .returned (.bool (keep k)) ∧ W = W') :
    Calls Try.prog 31 #[.pointer (some ⟨L.p, 0, none⟩), .func (.func g) #[] cap] w fun e w' => e = .returned (.tuple #[]) ∧ Now w L (D.stand keep) w' := by
  by_cases he : D.keys = []
  · exact stand_none h he g cap keep
  · exact stand_some h he g cap keep hen hk
theorem Flush1_any (k : Int) (w : World) : Calls Try.prog 32 #[.int .i64 k] w fun e w' => e = .returned (.bool true) ∧ w = w' := by
  go_enter Try.func32, Try.ntmps32
  go_wp2
  go_ret
  exact ⟨rfl, rfl⟩
/-- '(*Disk).Flush'. -/
theorem Flush_any {w : World} {L : DL} {D : PD} (h : IsDisk w L D) :
    Calls Try.prog 13 #[.pointer (some ⟨L.p, 0, none⟩)] w (DoesTo w L D.flush) := by
  have c4 := h.c4
  have H := Fact.mk h
  have HC := Fact.mk (call_any h)
  have HS : Fact (∀ w1, Now w L D.call w1 → Calls Try.prog 31 #[.pointer (some ⟨L.p, 0, none⟩), .func (.func 32) #[] #[]] w1 fun e w' => e = .returned (.tuple #[]) ∧ Now w1 L (D.call.stand fun _ => true) w') :=
    ⟨fun w1 h1 => stand_any h1.1 32 #[] (fun _ => true) (enters_of Try.func32 (by kernel_rfl) rfl) (fun k W _ _ => Flush1_any k W)⟩
  unfold PD.flush
  clear h
  cases hd : D.down with
  | true =>
    rw [if_pos rfl]
    rw [hd] at c4
    clear hd
    go_enter Try.func13, Try.ntmps13
    go_wp2
    go_ret
    exact ⟨rfl, H.out, Only.refl _ _⟩
  | false =>
    rw [if_neg Bool.false_ne_true]
    rw [hd] at c4
    clear hd
    cases hc : D.call.down with
    | true =>
      rw [if_pos rfl]
      rw [hc] at HC
      clear hc
      go_enter Try.func13, Try.ntmps13
      go_wp2_with (go_at_call 29; refine HC.out.mono ?_; rintro e w1 ⟨rfl, h1⟩; have H1 := Fact.mk h1; clear h1)
      go_ret
      exact ⟨rfl, H1.out⟩
    | false =>
      rw [if_neg Bool.false_ne_true]
      rw [hc] at HC
      clear hc
      go_enter Try.func13, Try.ntmps13
      go_wp2_with (first | (go_at_call 29; refine HC.out.mono ?_; rintro e w1 ⟨rfl, h1⟩; have H1 := Fact.mk h1; clear h1) | (go_at_call 31; refine (HS.out _ H1.out).mono ?_; rintro e w2 ⟨rfl, h2⟩; have H2 := Fact.mk h2; clear h2))
      go_ret
      exact ⟨rfl, H2.out.1, H1.out.2.trans H2.out.2⟩
end Go.Proofs.Ytldefibkaoboeaa.Dk
