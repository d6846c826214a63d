/-
The disk's further walks and laws, one text behind the other.
-/
import Derived.Test.YtdkijmikafmgaaaXA
import Derived.Test.YtdkijmikafmgaaaDkShelf
import Derived.Shelf.SlIterI.Nil
import Derived.Shelf.SortM.Plain
import Derived.Shelf.SortM.SortNone
import Derived.Deep.LoopGhost
import Derived.Great.BuildSlice
namespace Go.Proofs.Ytdkijmikafmgaaa.Dk
open Go.RowKit Go.Maps Go.Sort Go.Proofs.YtdkijmikafmgaaaW.PrintWords Go.Proofs.YtdkijmikafmgaaaW.PrintLast Go.Proofs.YtdkijmikafmgaaaW.PrintMore
set_option linter.unusedVariables false
set_option linter.unusedSimpArgs false

theorem sorts_in (m : Nat) : AnyZI.SortsIn Try.prog Try.sortedD_ren Fence.wide m :=
  ⟨fun blk off cap ss W hH hblk hsz => callsIn_wide.2 (AnyM.slices_Sort_int Try.sortD blk off cap ss W hH hblk hsz),
   fun p cap W => callsIn_wide.2 (AnyM.slices_Sort_int_none Try.sortD p cap W)⟩
theorem Keys_any (b : Nat) (w : World) : Calls Try.prog 70 #[.map (some b)] w fun e w' => e = .returned (.func (.func 80) #[] #[.pointer (some ⟨w.heap.size, 0, none⟩)]) ∧ w' = w.alloc (.cells #[.map (some b)] 88) := by
  have h : CallsIn Fence.wide 5 Try.prog 70 #[.map (some b)] w fun e w' => e = .returned (.func (.func 80) #[] #[.pointer (some ⟨w.heap.size, 0, none⟩)]) ∧ w' = w.alloc (.cells #[.map (some b)] 88) :=
    AnyZI.keys_in Try.keysD Fence.wide 5 trivial rfl (some b) w
  exact callsIn_wide.1 h
set_option maxHeartbeats 1000000 in
theorem Sorted_any {w : World} {b N : Nat} {f : Nat → Option Value} (h : IntMap Try.prog w b f N) (hN : N ≤ 4096) :
    Calls Try.prog 69 #[.func (.func 80) #[] #[.pointer (some ⟨w.heap.size, 0, none⟩)]] (w.alloc (.cells #[.map (some b)] 88)) fun e w' => ∃ v : Value, e = .returned v ∧
      w'.ownsRow (w.heap.size + 1) 3 1 v (ikeys f N).length (nums .i64 (ikeys f N)) ∧ Below (w.heap.size + 1) (w.alloc (.cells #[.map (some b)] 88)) w' := by
  obtain ⟨D0, hown, hsz, hperm, _⟩ := h.tight int_t
  have hle : Maps.size D0 ≤ N := by
    rw [hsz]
    have := List.length_filter_le (fun i => (f i).isSome) (List.range N)
    rw [List.length_range] at this; exact this
  have hbl := hown.lt
  have hseq : SeqGives Fence.wide 2 Try.prog 80 #[.pointer (some ⟨w.heap.size, 0, none⟩)] encZ (fun ss => ss.Perm (intKeys D0)) (Maps.size D0) (w.alloc (.cells #[.map (some b)] 88)) :=
    AnyZI.keys_gives (ρ := Try.keysD_ren) { Try.keysD with } Fence.wide _ trivial rfl (by omega) w.heap.size b N D0 _ (by simp) (by simp) (by
      obtain ⟨es, clock, hb, Ft, hs, hD⟩ := hown
      exact ⟨es, clock, (Below.heap_alloc _ _ b hbl).trans hb, Ft, hs, hD⟩)
  have cS := AnyZI.sorted_in Try.sortedD Fence.wide 5 trivial trivial trivial trivial rfl (by omega) (sorts_in _) (enters_of Try.func79 (by kernel_rfl) rfl) 80 #[.pointer (some ⟨w.heap.size, 0, none⟩)] trivial (enters_of Try.func80 (by kernel_rfl) rfl) _ _ (by unfold maxLen; omega) (by omega) _ hseq
  change CallsIn _ _ Try.prog 69 _ _ _ at cS
  refine (callsIn_wide.1 cS).mono ?_
  rintro e w' ⟨v, ss, rfl, hS, hrow, hnil, hb⟩
  have e1 : ss.mergeSort (fun x y => decide (x ≤ y)) = ikeys f N := by
    have := mergeSort_of_perm_i (hS.trans hperm.symm)
    rw [ikeys_sorted] at this
    exact this
  have e2 : ss.length = (ikeys f N).length := (hS.trans hperm.symm).length_eq
  rw [e1, e2] at hrow
  refine ⟨v, rfl, ?_, ?_⟩
  · have h3 : Try.sortedD_ren.t 26 = 3 := by kernel_rfl
    have hs : (w.alloc (.cells #[.map (some b)] 88)).heap.size = w.heap.size + 1 := by simp
    rw [h3, hs] at hrow
    exact hrow
  · simpa using hb
/-- A row of whole numbers of one's own. -/
abbrev OwnI (w : World) (base : Nat) (ok : Nat → Prop) (v : Value) (l : List Int) : Prop := Kd.R (Kd.int .i64) 3 w base ok v l
def PD.ikeys (D : PD) : List Int := D.keys.map fun i : Nat => (i : Int)
theorem ikeys_eq (D : PD) : ikeys (fun i => (D.pe i).map secV) D.n = D.ikeys := by
  unfold ikeys PD.ikeys keysOf PD.keys
  congr 1
  apply List.filter_congr
  intro i _
  simp
/-- '(*Disk).Pending'. -/
theorem Pending_any {w : World} {L : DL} {D : PD} (h : IsDisk w L D) :
    Calls Try.prog 56 #[.pointer (some ⟨L.p, 0, none⟩)] w fun e w' => ∃ v, e = .returned v ∧ OwnI w' w.heap.size (fun k => w.heap.size ≤ k) v D.ikeys ∧ Below w.heap.size w w' := by
  have c1 := h.c1
  have HS := Fact.mk (Sorted_any h.pend h.good.most)
  rw [ikeys_eq] at HS
  clear h
  go_enter Try.func56, Try.ntmps56
  go_wp2_with (first | (go_at_call 70; refine (Keys_any _ _).mono ?_; rintro e w' ⟨rfl, rfl⟩) | (go_at_call 69; refine HS.out.mono ?_; rintro e w' ⟨v, rfl, ho, hb⟩; have HO := Fact.mk ho; have HB := Fact.mk hb; clear ho hb))
  go_ret
  refine ⟨v, rfl, ?_, ?_⟩
  · exact Kd.R_lower (Kd.R_of_own (h1 := fun _ => rfl) HO.out (fun k hk => by have := own_base HO.out k hk; omega)) (by omega)
  · exact ((Below.refl _ _).alloc (Nat.le_refl _) _).trans (HB.out.mono (by omega))
end Go.Proofs.Ytdkijmikafmgaaa.Dk
namespace Go.Proofs.Ytdkijmikafmgaaa.Dk
open Go.RowKit Go.Maps Go.Proofs.YtdkijmikafmgaaaW.PrintWords Go.Proofs.YtdkijmikafmgaaaW.PrintLast Go.Proofs.YtdkijmikafmgaaaW.PrintMore
set_option linter.unusedVariables false
set_option linter.unusedSimpArgs false

namespace PD
theorem mem_keys (D : PD) (i : Nat) : i ∈ D.keys ↔ i < D.n ∧ (D.pe i).isSome = true := by simp [PD.keys]
theorem keys_sorted (D : PD) : D.keys.Pairwise (· < ·) := List.Pairwise.filter _ List.pairwise_lt_range
theorem keys_split (D : PD) {i : Nat} (hi : i < D.n) (hp : (D.pe i).isSome = true) : ∃ B, D.keys = ((List.range i).filter fun j => (D.pe j).isSome) ++ i :: B := by
  have e : List.range D.n = List.range i ++ i :: (List.range (D.n - i - 1)).map (fun k => k + (i + 1)) := by
    have h1 : List.range D.n = List.range (i + (1 + (D.n - i - 1))) := by congr 1; omega
    rw [h1, List.range_add, List.range_add]
    simp [Nat.add_comm, Nat.add_left_comm]
  refine ⟨((List.range (D.n - i - 1)).map (fun k => k + (i + 1))).filter fun j => (D.pe j).isSome, ?_⟩
  unfold PD.keys
  rw [e, List.filter_append, List.filter_cons, if_pos hp]
theorem keys_at (D : PD) {i : Nat} (hi : i < D.n) (hp : (D.pe i).isSome = true) : D.keys[D.rank i]? = some i := by
  obtain ⟨B, e⟩ := D.keys_split hi hp
  rw [e, List.getElem?_append_right (by simp [PD.rank])]
  simp [PD.rank]
theorem rank_lt (D : PD) {i : Nat} (hi : i < D.n) (hp : (D.pe i).isSome = true) : D.rank i < D.keys.length := (List.getElem?_eq_some_iff.1 (D.keys_at hi hp)).1
theorem rank_of (D : PD) {i j : Nat} (h : D.keys[j]? = some i) : i < D.n ∧ (D.pe i).isSome = true ∧ D.rank i = j := by
  have hm := (D.mem_keys i).1 (List.mem_of_getElem? h)
  refine ⟨hm.1, hm.2, ?_⟩
  have h2 := D.keys_at hm.1 hm.2
  obtain ⟨l1, e1⟩ := List.getElem?_eq_some_iff.1 h
  obtain ⟨l2, e2⟩ := List.getElem?_eq_some_iff.1 h2
  have hs := List.pairwise_iff_getElem.1 D.keys_sorted
  rcases Nat.lt_trichotomy (D.rank i) j with hlt | he | hlt
  · have := hs _ _ l2 l1 hlt; omega
  · exact he
  · have := hs _ _ l1 l2 hlt; omega
/-- Behind the first j of them. -/
def standAt (D : PD) (keep : Nat → Bool) (j : Nat) : PD :=
  { D with st := fun i => match D.pe i with | some b => if D.rank i < j ∧ keep (D.rank i) = true then b else D.st i | none => D.st i }
theorem standAt_zero (D : PD) (keep : Nat → Bool) : D.standAt keep 0 = D := by
  unfold standAt
  have : (fun i => match D.pe i with | some b => if D.rank i < 0 ∧ keep (D.rank i) = true then b else D.st i | none => D.st i) = D.st := by
    funext i; split <;> simp
  rw [this]
theorem standAt_skip (D : PD) (keep : Nat → Bool) {j : Nat} (hk : keep j = false) : D.standAt keep (j + 1) = D.standAt keep j := by
  unfold standAt
  have : (fun i => match D.pe i with | some b => if D.rank i < j + 1 ∧ keep (D.rank i) = true then b else D.st i | none => D.st i) = (fun i => match D.pe i with | some b => if D.rank i < j ∧ keep (D.rank i) = true then b else D.st i | none => D.st i) := by
    funext i
    split
    · rename_i b hb
      by_cases h1 : D.rank i = j
      · rw [h1, hk]; simp
      · have : (D.rank i < j + 1) = (D.rank i < j) := by apply propext; omega
        simp only [this]
    · rfl
  rw [this]
theorem standAt_take (D : PD) (hg : D.Good) (keep : Nat → Bool) {i j : Nat} {b : List Int} (h : D.keys[j]? = some i) (hb : D.pe i = some b) (hk : keep j = true) :
    D.standAt keep (j + 1) = { D.standAt keep j with st := fun k => if k = i then b else (D.standAt keep j).st k } := by
  obtain ⟨r1, r2, r3⟩ := D.rank_of h
  unfold standAt
  simp only [PD.mk.injEq, and_true, true_and]
  funext k
  by_cases hki : k = i
  · subst hki
    rw [if_pos rfl, hb, r3]
    simp [hk]
  · rw [if_neg hki]
    cases hp : D.pe k with
    | none => rfl
    | some c =>
      have hkn := (hg.fullp k c hp).1
      have h2 := D.keys_at hkn (by rw [hp]; rfl)
      have hne : D.rank k ≠ j := by
        intro e
        rw [e, h] at h2
        exact hki (Option.some.inj h2).symm
      have : (D.rank k < j + 1) = (D.rank k < j) := by apply propext; omega
      simp only [this]
theorem standAt_end (D : PD) (hg : D.Good) (keep : Nat → Bool) : D.stand keep = { D.standAt keep D.keys.length with pe := fun _ => none } := by
  unfold standAt stand
  simp only [PD.mk.injEq, and_true, true_and]
  funext i
  cases hp : D.pe i with
  | none => rfl
  | some b =>
    have := D.rank_lt (hg.fullp i b hp).1 (by rw [hp]; rfl)
    simp [this]
theorem Good.standAt {D : PD} (h : Good D) (keep : Nat → Bool) (j : Nat) : Good (D.standAt keep j) :=
  ⟨h.one, h.most, h.lo, h.hi, fun i => by
    simp only [PD.standAt]
    split
    · rename_i b hb
      split
      · exact (h.fullp i b hb).2
      · exact h.full i
    · exact h.full i, h.fullp⟩
end PD
theorem stcells_set {cs : Array Value} {n : Nat} {st : Nat → List Int} (h : StCells cs n st) {i : Nat} (hi : i < n) {b : List Int} (hb : b.length = 64) :
    StCells (cs.toList.take (i * 64) ++ b.map (Value.int .u8) ++ cs.toList.drop (i * 64 + 64)).toArray n (fun k => if k = i then b else st k) := by
  obtain ⟨h1, h2⟩ := h
  have hl : cs.toList.length = 64 * n := by simpa using h1
  have hle : i * 64 + 64 ≤ 64 * n := by omega
  refine ⟨by simp [hb]; omega, fun k j hk hj => ?_⟩
  rw [List.getElem?_toArray, List.append_assoc]
  show _ = some (Value.int .u8 ((if k = i then b else st k).getD j 0))
  rcases Nat.lt_trichotomy k i with h | rfl | h
  · rw [if_neg (by omega), List.getElem?_append_left (by simp; omega), List.getElem?_take_of_lt (by omega), Array.getElem?_toList]
    exact h2 k j hk hj
  · rw [if_pos rfl, List.getElem?_append_right (by simp; omega)]
    have e : 64 * k + j - (List.take (k * 64) cs.toList).length = j := by simp; omega
    rw [e, List.getElem?_append_left (by simp [hb]; exact hj), List.getElem?_map, List.getD_eq_getElem?_getD, List.getElem?_eq_getElem (by omega)]
    rfl
  · rw [if_neg (by omega), List.getElem?_append_right (by simp; omega), List.getElem?_append_right (by simp [hb]; omega), List.getElem?_drop]
    have e : i * 64 + 64 + (64 * k + j - (List.take (i * 64) cs.toList).length - (List.map (Value.int .u8) b).length) = 64 * k + j := by simp [hb]; omega
    rw [e, Array.getElem?_toList]
    exact h2 k j hk hj
theorem IsDisk.there_st {w : World} {L : DL} {D : PD} (h : IsDisk w L D) {i : Nat} (hi : i < D.n) : w.there L.bs (i * 64) 64 := by
  obtain ⟨cs, h1, h2, h3⟩ := h.stands
  intro j hj
  refine ⟨?_, frozen_of_row w L.bs _ _ _ h1⟩
  rw [cell_of_row w L.bs _ _ _ _ h1, Nat.mul_comm i 64, h3 i j hi hj]; rfl
theorem IsDisk.setSt {w : World} {L : DL} {D : PD} (h : IsDisk w L D) {i : Nat} (hi : i < D.n) {b : List Int} (hb : b.length = 64) :
    IsDisk (w.setCells L.bs (i * 64) (b.map (Value.int .u8))) L { D with st := fun k => if k = i then b else D.st k } := by
  obtain ⟨n1, n2, n3, n4⟩ := h.ne_maps
  obtain ⟨cs, h1, h2⟩ := h.stands
  obtain ⟨f, h3, h4⟩ := h.bads
  obtain ⟨r1, r2⟩ := setCells_row L.bs _ (b.map (Value.int .u8)) (i * 64) cs w h1 (by rw [List.length_map, hb, h2.1]; omega)
  rw [List.length_map, hb] at r1
  refine ⟨⟨h.good.one, h.good.most, h.good.lo, h.good.hi, fun k => ?_, h.good.fullp⟩, (r2 _ h.ne1).trans h.self, ⟨_, r1, stcells_set h2 hi hb⟩, h.pend.move (r2 _ (Ne.symm n3)), ⟨f, h3.move (r2 _ (Ne.symm n4)), h4⟩, h.ne1, h.ne2⟩
  show (if k = i then b else D.st k).length = 64
  split
  · exact hb
  · exact h.good.full k
theorem Only.setCells {S : Nat → Prop} (w : World) {g : Nat} (hg : S g) : ∀ (vs : List Value) (o : Nat), Only S w (w.setCells g o vs) := by
  intro vs
  induction vs generalizing w with
  | nil => exact fun _ => Only.refl _ _
  | cons v r ih => exact fun o => (Only.setCell w (a := ⟨g, o, none⟩) hg v).trans (ih _ _)
theorem IsDisk.clearP {w w' : World} {L : DL} {D : PD} (h : IsDisk w L D) (hm : IntMap Try.prog w' L.bp (fun _ => none) D.n) (ht : w.mapTurned w' L.bp) : IsDisk w' L { D with pe := fun _ => none } := by
  obtain ⟨n1, n2, n3, n4⟩ := h.ne_maps
  obtain ⟨cs, h1, h2⟩ := h.stands
  obtain ⟨f, h3, h4⟩ := h.bads
  have g := ht.grown
  have hs : ∀ k, k < w.heap.size → k ≠ L.bp → w'.heap[k]? = w.heap[k]? := fun k hk hn => g.block k hk (fun e => hn (Option.some.inj e))
  exact ⟨⟨h.good.one, h.good.most, h.good.lo, h.good.hi, h.good.full, fun i b hb => by cases hb⟩, (hs _ (h.lt _ L.S_p) n1).trans h.self, ⟨cs, (hs _ (h.lt _ L.S_bs) n3).trans h1, h2⟩, hm, ⟨f, h3.move (hs _ (h.lt _ L.S_bb) (Ne.symm h.ne2)), h4⟩, h.ne1, h.ne2⟩
section
variable {P : Program} {w : World} {ops : Array Oper} {rest : List Oper} {o : Oper} {a : Act} {Q : Exit → Act → World → Prop}
theorem wpList_clear_map (hg : o.guard = none) (m : Operand) (t e : TypeId) (hop : o.op = Op.call { callee := Callee.builtin Builtin.clear, args := #[m], argTypes := #[t] }) (ht : P.underlying t = some (.map 3 e))
    (b N : Nat) (f : Nat → Option Value) (h : IntMap P w b f N) (hm : a.eval m = .map (some b))
    (hK : ∀ w', IntMap P w' b (fun _ => none) N → w.mapTurned w' b → wpList P ops Q rest (a.put o.dst (.tuple #[])) w') : wpList P ops Q (o :: rest) a w := by
  refine wpList_plain hg fun K' hK' => ?_
  obtain ⟨w', hrun, r1, r2⟩ := h.clear ht o.type
  unfold Oper.wp
  simp [execOp, hop, resolve, invoke, builtin, hm, hrun, Result.andThen]
  exact hK' _ _ (hK w' r1 r2)
end
theorem stand_done {w w1 w2 : World} {L : DL} {D : PD} (hg : D.Good) (keep : Nat → Bool) (h : IsDisk w1 L (D.standAt keep D.keys.length)) (ho : Only L.S w w1) (hm : IntMap Try.prog w2 L.bp (fun _ => none) D.n) (ht : w1.mapTurned w2 L.bp) : Now w L (D.stand keep) w2 := by
  rw [PD.standAt_end D hg keep]
  exact ⟨h.clearP hm ht, ho.trans (Only.mapTurned ht L.S_bp)⟩
theorem stand_none {w : World} {L : DL} {D : PD} (h : IsDisk w L D) (he : D.keys = []) (g : FuncId) (cap : Array Value) (keep : Nat → Bool) :
    Calls Try.prog 37 #[.pointer (some ⟨L.p, 0, none⟩), .func (.func g) #[] cap] w fun e w' => e = .returned (.tuple #[]) ∧ Now w L (D.stand keep) w' := by
  have HG := Fact.mk h.good
  have HP := Fact.mk (Pending_any h)
  have hk : D.ikeys = [] := by rw [PD.ikeys, he]; rfl
  rw [hk] at HP
  have HD := Fact.mk h
  have HE := Fact.mk he
  clear h he hk
  go_enter Try.func37, Try.ntmps37
  go_wp2_with (go_at_call 56; refine HP.out.mono ?_; rintro e w1 ⟨v, rfl, ho, hb⟩; obtain ⟨A, c, rfl, _⟩ := Kd.R_reads ho; have H1 := Fact.mk (HD.out.below hb); have H2 := Fact.mk (Only.of_below hb L.S); clear ho hb)
  go_loopw [9] (fun v9 wr => v9 = .int .i64 0 ∧ Fact (IsDisk wr L D) ∧ Fact (Only L.S w wr)) (fun _ _ => 0)
  case atStart => exact ⟨rfl, H1, H2⟩
  case round =>
    obtain ⟨rfl, H3, H4⟩ := hrel
    have c1 := H3.out.c1
    go_wp2_with (refine wpList_clear_map rfl (.tmp 33) 88 117 rfl Try.underlying88 L.bp D.n _ H3.out.pend rfl ?_; intro w3 hm3 ht3; have HM := Fact.mk hm3; have HT3 := Fact.mk ht3; clear hm3 ht3)
    go_end0
    refine ⟨rfl, stand_done HG.out keep ?_ H4.out HM.out HT3.out⟩
    rw [HE.out, List.length_nil, PD.standAt_zero]
    exact H3.out
theorem IsDisk.look_pend1 {w : World} {L : DL} {D : PD} (h : IsDisk w L D) (i : Nat) (hi : i < 9223372036854775808) :
    (Instr.lookup 88 (.map (some L.bp)) (.int .i64 (i : Int)) false).run Try.prog w = .ok (((D.pe i).map secV).getD zsec) w :=
  h.pend.look int_t Try.underlying88 (zero_sec w) i hi
theorem own_cells {w : World} {base : Nat} {ok : Nat → Prop} {v : Value} {l : List Int} (h : OwnI w base ok v l) (h0 : l ≠ []) : ∃ gb c, v = .slice (some ⟨gb, 0, none⟩) l.length c ∧ ok gb ∧ base ≤ gb ∧ gb < w.heap.size ∧ ∀ j x, l[j]? = some x → w.cell? ⟨gb, j, none⟩ = some (.int .i64 x) := by
  have ho := Kd.own_of_R h
  have hp : 0 < l.length := List.length_pos_iff.2 h0
  obtain ⟨gb, cap, rfl, _, _⟩ := ho.form hp
  have hk : ok gb := h.1 gb (by simp [Value.ownBlock])
  refine ⟨gb, cap, rfl, hk, own_base ho gb (by simp [Value.ownBlock]), own_lt ho gb (by simp [Value.ownBlock]), fun j x hx => by rw [← add_plain]; exact ho.cells (g := gb) rfl j (.int .i64 x) (by simp [encs, hx])⟩
set_option maxHeartbeats 1000000 in
set_option maxRecDepth 100000 in
theorem stand_some {w : World} {L : DL} {D : PD} (h : IsDisk w L D) (hne : D.keys ≠ []) (g : FuncId) (cap : Array Value) (keep : Nat → Bool) (hen : ∀ args W, (callFunc g args).run Try.prog W = .ok (.enter g args) W)
    (hk : ∀ (k : Nat) (W : World), k < 4096 → Only L.S w W → Calls Try.prog g (#[.int .i64 (k : Int)] ++ cap) W fun e W' => e = .returned (.bool (keep k)) ∧ W = W') :
    Calls Try.prog 37 #[.pointer (some ⟨L.p, 0, none⟩), .func (.func g) #[] cap] w fun e w' => e = .returned (.tuple #[]) ∧ Now w L (D.stand keep) w' := by
  have HG := Fact.mk h.good
  have HK := Fact.mk hk
  have HP := Fact.mk (Pending_any h)
  have HD := Fact.mk h
  have hml : D.ikeys.length = D.keys.length := by simp [PD.ikeys]
  have hne2 : D.ikeys ≠ [] := by intro e; rw [e] at hml; exact hne (List.length_eq_zero_iff.1 hml.symm)
  have hmn : D.keys.length ≤ D.n := by
    have := List.length_filter_le (fun i => (D.pe i).isSome) (List.range D.n)
    rw [List.length_range] at this; exact this
  have hn4 : D.n ≤ 4096 := h.good.most
  have HM := Fact.mk (And.intro hml hne2)
  clear h hne hk hml hne2
  go_enter Try.func37, Try.ntmps37
  go_wp2_with (go_at_call 56; refine HP.out.mono ?_; rintro e w1 ⟨v, rfl, ho, hb⟩; obtain ⟨gb, c, rfl, hgk, _, hgl, hcc⟩ := own_cells ho HM.out.2; rw [HM.out.1]; have H1 := Fact.mk (HD.out.below hb); have H2 := Fact.mk (Only.of_below hb L.S); have H3 := Fact.mk hcc; have HGB := Fact.mk (And.intro hgk hgl); clear ho hb hcc hgk hgl)
  go_loopw [9] (fun v9 wr => ∃ j : Nat, v9 = .int .i64 (j : Int) ∧ j ≤ D.keys.length ∧ Fact (IsDisk wr L (D.standAt keep j)) ∧ Fact (Only L.S w wr) ∧ Fact (∀ j x, D.ikeys[j]? = some x → wr.cell? ⟨gb, j, none⟩ = some (.int .i64 x)) ∧ Fact (gb < wr.heap.size)) (fun v _ => D.keys.length - (intOf v).toNat)
  case atStart => exact ⟨0, rfl, Nat.zero_le _, ⟨by rw [PD.standAt_zero]; exact H1.out⟩, H2, H3, ⟨HGB.out.2⟩⟩
  case round =>
    obtain ⟨j, rfl, hj, R1, R2, R3, R4⟩ := hrel
    clear H1 H2 H3
    by_cases hlt : j < D.keys.length
    · obtain ⟨i, hi⟩ : ∃ i, D.keys[j]? = some i := ⟨_, List.getElem?_eq_getElem hlt⟩
      have HI := Fact.mk hi
      have HR := Fact.mk (D.rank_of hi)
      have hin : i < D.n := (D.rank_of hi).1
      obtain ⟨b, hb⟩ : ∃ b, D.pe i = some b := Option.isSome_iff_exists.1 (D.rank_of hi).2.1
      have HB := Fact.mk hb
      have hc := R3.out j (i : Int) (by rw [PD.ikeys, List.getElem?_map, hi]; rfl)
      have HKJ := Fact.mk (HK.out j wr (by omega) R2.out)
      clear hi hb
      cases hkj : keep j with
      | false =>
        rw [hkj] at HKJ
        have HKF := Fact.mk hkj
        clear hkj
        go_wp2_with (go_at_fn g; refine HKJ.out.mono ?_; rintro e w' ⟨rfl, rfl⟩)
        exact ⟨⟨j + 1, by go_num, by omega, ⟨by rw [PD.standAt_skip D keep HKF.out]; exact R1.out⟩, R2, R3, R4⟩, by simp [intOf]; omega⟩
      | true =>
        rw [hkj] at HKJ
        have HKT := Fact.mk hkj
        clear hkj
        go_wp2_with (go_at_fn g; refine HKJ.out.mono ?_; rintro e w' ⟨rfl, rfl⟩)
        refine region_tail 12 (by kernel_rfl) (by kernel_rfl) ?_
        intro w2 hw2
        have S1 : Fact (IsDisk w2 L (D.standAt keep j)) := by subst hw2; exact ⟨R1.out.drew⟩
        have S2 : Fact (Only L.S w w2) := by subst hw2; exact ⟨R2.out.drew⟩
        have S3 : Fact (∀ j x, D.ikeys[j]? = some x → w2.cell? ⟨gb, j, none⟩ = some (.int .i64 x)) := by subst hw2; exact R3
        have S4 : Fact (gb < w2.heap.size) := by subst hw2; exact R4
        clear hc hw2 R1 R2 R3 R4 HKJ
        have c0 := S1.out.c0
        have c1 := S1.out.c1
        have l1 := S1.out.look_pend1 i (by omega)
        rw [show (D.standAt keep j).pe i = some b from HB.out] at l1
        simp only [Option.map_some, Option.getD_some, secV] at l1
        have HL : Fact (b.length = 64) := ⟨(HG.out.fullp i b HB.out).2⟩
        generalize hcs : (b.map (Value.int .u8)).toArray = cs at *
        have HCS := Fact.mk hcs
        have HSZ : Fact ((Try.prog.info? 117).map (·.size) = some cs.size ∧ w2.there L.bs (i * 64) cs.size ∧ cs.all (·.oneCell') = true) := by
          have hz : cs.size = 64 := by rw [← hcs]; simp [HL.out]
          refine ⟨by rw [size_sec, hz], by rw [hz]; exact S1.out.there_st hin, by rw [← hcs]; exact all_oneCell_toArray (by intro v hv; obtain ⟨x, _, rfl⟩ := List.mem_map.1 hv; rfl)⟩
        clear hcs
        have hn0 : (D.standAt keep j).n = D.n := rfl
        rw [hn0] at c0
        simp only [List.take_succ_cons, List.take_zero, List.drop_succ_cons, List.drop_zero]
        iterate 12 still_step
        refine wpStill_nil ?_
        go_wp2_with (refine wpList_store_mid rfl 117 (.tmp 28) (.tmp 27) rfl L.bs (i * 64) cs rfl rfl HSZ.out.2.1 HSZ.out.1 HSZ.out.2.2 ?_)
        have hcl : cs.toList = b.map (Value.int .u8) := by rw [← HCS.out]
        have hgs : gb ≠ L.bs := by intro e; have := HD.out.lt _ L.S_bs; have := HGB.out.1; omega
        have ho := Only.setCells (S := L.S) w2 L.S_bs cs.toList (i * 64)
        refine ⟨⟨j + 1, by go_num, by omega, ⟨?_⟩, ⟨S2.out.trans ho⟩, ⟨fun q x hq => ?_⟩, ⟨Nat.lt_of_lt_of_le S4.out ho.size⟩⟩, by simp [intOf]; omega⟩
        · rw [PD.standAt_take D HG.out keep HI.out HB.out HKT.out, hcl]
          exact S1.out.setSt hin HL.out
        · rw [World.cell?_setCells_out L.bs cs.toList (i * 64) w2 ⟨gb, q, none⟩ (fun hb _ => absurd hb hgs)]
          exact S3.out q x hq
    · have he : j = D.keys.length := by omega
      have c1 := R1.out.c1
      go_wp2_with (refine wpList_clear_map rfl (.tmp 33) 88 117 rfl Try.underlying88 L.bp D.n _ R1.out.pend rfl ?_; intro w3 hm3 ht3; have HM3 := Fact.mk hm3; have HT3 := Fact.mk ht3; clear hm3 ht3)
      go_end0
      exact ⟨rfl, stand_done HG.out keep (he ▸ R1.out) R2.out HM3.out HT3.out⟩
/-- '(*Disk).stand'. -/
theorem stand_any {w : World} {L : DL} {D : PD} (h : IsDisk w L D) (g : FuncId) (cap : Array Value) (keep : Nat → Bool) (hen : ∀ args W, (callFunc g args).run Try.prog W = .ok (.enter g args) W)
    (hk : ∀ (k : Nat) (W : World), k < 4096 → Only L.S w W → Calls Try.prog g (#[.int .i64 (k : Int)] ++ cap) W fun e W' => e = .returned (.bool (keep k)) ∧ W = W') :
    Calls Try.prog 37 #[.pointer (some ⟨L.p, 0, none⟩), .func (.func g) #[] cap] w fun e w' => e = .returned (.tuple #[]) ∧ Now w L (D.stand keep) w' := by
  by_cases he : D.keys = []
  · exact stand_none h he g cap keep
  · exact stand_some h he g cap keep hen hk
theorem Flush1_any (k : Int) (w : World) : Calls Try.prog 77 #[.int .i64 k] w fun e w' => e = .returned (.bool true) ∧ w = w' := by
  go_enter Try.func77, Try.ntmps77
  go_wp2
  go_ret
  exact ⟨rfl, rfl⟩
/-- '(*Disk).Flush'. -/
theorem Flush_any {w : World} {L : DL} {D : PD} (h : IsDisk w L D) :
    Calls Try.prog 67 #[.pointer (some ⟨L.p, 0, none⟩)] w (DoesTo w L D.flush) := by
  have c4 := h.c4
  have H := Fact.mk h
  have HC := Fact.mk (call_any h)
  have HS : Fact (∀ w1, Now w L D.call w1 → Calls Try.prog 37 #[.pointer (some ⟨L.p, 0, none⟩), .func (.func 77) #[] #[]] w1 fun e w' => e = .returned (.tuple #[]) ∧ Now w1 L (D.call.stand fun _ => true) w') :=
    ⟨fun w1 h1 => stand_any h1.1 77 #[] (fun _ => true) (enters_of Try.func77 (by kernel_rfl) rfl) (fun k W _ _ => Flush1_any k W)⟩
  unfold PD.flush
  clear h
  cases hd : D.down with
  | true =>
    rw [if_pos rfl]
    rw [hd] at c4
    clear hd
    go_enter Try.func67, Try.ntmps67
    go_wp2
    go_ret
    exact ⟨rfl, H.out, Only.refl _ _⟩
  | false =>
    rw [if_neg Bool.false_ne_true]
    rw [hd] at c4
    clear hd
    cases hc : D.call.down with
    | true =>
      rw [if_pos rfl]
      rw [hc] at HC
      clear hc
      go_enter Try.func67, Try.ntmps67
      go_wp2_with (go_at_call 76; refine HC.out.mono ?_; rintro e w1 ⟨rfl, h1⟩; have H1 := Fact.mk h1; clear h1)
      go_ret
      exact ⟨rfl, H1.out⟩
    | false =>
      rw [if_neg Bool.false_ne_true]
      rw [hc] at HC
      clear hc
      go_enter Try.func67, Try.ntmps67
      go_wp2_with (first | (go_at_call 76; refine HC.out.mono ?_; rintro e w1 ⟨rfl, h1⟩; have H1 := Fact.mk h1; clear h1) | (go_at_call 37; refine (HS.out _ H1.out).mono ?_; rintro e w2 ⟨rfl, h2⟩; have H2 := Fact.mk h2; clear h2))
      go_ret
      exact ⟨rfl, H2.out.1, H1.out.2.trans H2.out.2⟩
end Go.Proofs.Ytdkijmikafmgaaa.Dk
namespace Go.Proofs.Ytdkijmikafmgaaa.Dk
open Go.RowKit Go.Maps Go.Proofs.YtdkijmikafmgaaaW.PrintWords Go.Proofs.YtdkijmikafmgaaaW.PrintLast Go.Proofs.YtdkijmikafmgaaaW.PrintMore
set_option linter.unusedVariables false
set_option linter.unusedSimpArgs false

/-- Bools that are read. -/
abbrev ReadBool (w : World) (A : Option Addr) (n : Nat) (l : List Bool) : Prop := Kd.C Kd.bool w A n l
theorem bool_cell {w : World} {A : Option Addr} {l : List Bool} (h : ReadBool w A l.length l) {k : Nat} (hk : k < l.length) : ∃ ad, A = some ad ∧ w.cell? (ad.add k) = some (.bool (l.getD k false)) := by
  obtain ⟨ad, e, hc⟩ := h.2.2 (by omega)
  obtain ⟨c, h1, h2, h3⟩ := hc k l[k] (List.getElem?_eq_getElem hk)
  refine ⟨ad, e, ?_⟩
  have h4 : l.getD k false = l[k] := by rw [List.getD_eq_getElem?_getD, List.getElem?_eq_getElem hk]; rfl
  have := h3 0 (.bool l[k]) (by rw [show c = [.bool l[k]] from h2]; rfl)
  rw [h4]
  simpa [Kd.bool, Kd.scalar] using this
theorem Crash1_any (W : World) (bx : Nat) (A : Option Addr) (c : Nat) (keep : List Bool) (hx : W.cell? ⟨bx, 0, none⟩ = some (.slice A keep.length c)) (hr : ReadBool W A keep.length keep) (k : Nat) :
    Calls Try.prog 38 #[.int .i64 (k : Int), .pointer (some ⟨bx, 0, none⟩)] W fun e W' => e = .returned (.bool (keep.getD k false)) ∧ W = W' := by
  by_cases hk : k < keep.length
  · obtain ⟨ad, rfl, hc⟩ := bool_cell hr hk
    have hk2 : (k : Int) < (keep.length : Int) := by omega
    clear hr
    generalize keep.getD k false = b at *
    generalize keep.length = n at *
    go_enter Try.func38, Try.ntmps38
    go_wp2
    go_ret
    exact ⟨rfl, rfl⟩
  · have hb : keep.getD k false = false := by rw [List.getD_eq_getElem?_getD, List.getElem?_eq_none (by omega)]; rfl
    rw [hb]
    clear hr hb
    generalize keep.length = n at *
    have hk2 : decide ((k : Int) < (n : Int)) = false := by simp; omega
    go_enter Try.func38, Try.ntmps38
    go_wp2
    go_ret
    exact ⟨rfl, rfl⟩
theorem IsDisk.crash {w : World} {L : DL} {D : PD} (h : IsDisk w L D) : IsDisk ((w.setCell ⟨L.p, 3, none⟩ (.int .i64 (-1))).setCell ⟨L.p, 4, none⟩ (.bool false)) L { D with left := -1, down := false } :=
  (h.setLeft (-1) (by omega) (by omega)).setDown false
/-- '(*Disk).Crash'. -/
theorem Crash_any {w : World} {L : DL} {D : PD} (h : IsDisk w L D) (A : Option Addr) (c : Nat) (keep : List Bool) (hr : ∀ W, Only L.S w W → ReadBool W A keep.length keep) :
    Calls Try.prog 15 #[.pointer (some ⟨L.p, 0, none⟩), .slice A keep.length c] w fun e w' => e = .returned (.tuple #[]) ∧ Now w L (D.crash keep) w' := by
  have hox := Only.alloc L.S w (.cells #[.slice A keep.length c] 31)
  have HS : Fact (Calls Try.prog 37 #[.pointer (some ⟨L.p, 0, none⟩), .func (.func 38) #[] #[.pointer (some ⟨w.heap.size, 0, none⟩)]] (w.alloc (.cells #[.slice A keep.length c] 31)) fun e w' => e = .returned (.tuple #[]) ∧ Now (w.alloc (.cells #[.slice A keep.length c] 31)) L (D.stand fun k => keep.getD k false) w') :=
    ⟨stand_any (h.alloc _) 38 #[.pointer (some ⟨w.heap.size, 0, none⟩)] (fun k => keep.getD k false) (enters_of Try.func38 (by kernel_rfl) rfl) (fun k W _ ho => Crash1_any W w.heap.size A c keep (by
      rw [World.cell?_of_block (w := w.alloc (.cells #[.slice A keep.length c] 31)) (ho.block w.heap.size (by simp) (fun hs => by have := h.lt _ hs; omega)), cell_of_row _ _ _ _ _ _ (heap_alloc_new w _)]; rfl) (hr W (hox.trans ho)) k)⟩
  have HO := Fact.mk hox
  clear h hr hox
  go_enter Try.func15, Try.ntmps15
  go_wp2_with (go_at_call 37; refine HS.out.mono ?_; rintro e w2 ⟨rfl, h2⟩; have H2 := Fact.mk h2; have c3 := h2.1.c3; have c4 := h2.1.c4; have f3 := h2.1.f 3; have f4 := h2.1.f 4; clear h2)
  go_end0
  exact ⟨rfl, H2.out.1.crash, (HO.out.trans H2.out.2).trans ((Only.setCell _ L.S_p _).trans (Only.setCell _ L.S_p _))⟩
end Go.Proofs.Ytdkijmikafmgaaa.Dk
namespace Go.Proofs.Ytdkijmikafmgaaa.Dk
open Go.RowKit Go.Maps Go.Proofs.YtdkijmikafmgaaaW.PrintWords Go.Proofs.YtdkijmikafmgaaaW.PrintLast Go.Proofs.YtdkijmikafmgaaaW.PrintMore
set_option linter.unusedVariables false
set_option linter.unusedSimpArgs false

/-- A block of bytes. -/
def BytesAt (w : World) (g : Nat) (l : List Int) : Prop := ∃ t fr, w.heap[g]? = some (.cells (l.map (Value.int .u8)).toArray t fr) ∧ l.length ≤ 9223372036854775807
theorem BytesAt.reads {w : World} {g : Nat} {l : List Int} (h : BytesAt w g l) : ReadB w (some ⟨g, 0, none⟩) l.length l := by
  obtain ⟨t, fr, h, hb⟩ := h
  refine ⟨rfl, hb, fun _ => ⟨_, rfl, fun j p hp => ⟨[.int .u8 p], rfl, rfl, fun i u hu => ?_⟩⟩⟩
  have hi : i = 0 := by rcases i with _ | i; rfl; simp at hu
  subst hi
  have hu : Value.int .u8 p = u := by simpa using hu
  subst hu
  have h2 : (⟨g, 0, none⟩ : Addr).add (j * (Kd.int .u8).sz + 0) = ⟨g, j, none⟩ := by
    show (⟨g, 0, none⟩ : Addr).add (j * 1 + 0) = _
    rw [Nat.mul_one, Nat.add_zero]; exact add_plain _ _
  rw [h2, cell_of_row _ _ _ _ _ _ h]
  simp [hp]
theorem BytesAt.lt {w : World} {g : Nat} {l : List Int} (h : BytesAt w g l) : g < w.heap.size := by
  obtain ⟨t, fr, h, hb⟩ := h
  exact (Array.getElem?_eq_some_iff.1 h).1
theorem BytesAt.only {w w' : World} {g : Nat} {l : List Int} {S : Nat → Prop} (h : BytesAt w g l) (ho : Only S w w') (hs : ¬ S g) : BytesAt w' g l := by
  have := ho.block g h.lt hs
  obtain ⟨t, fr, h, hb⟩ := h
  exact ⟨t, fr, this.trans h, hb⟩
theorem bytes_new (W : World) (l : List Int) (t : TypeId) (hl : l.length ≤ 9223372036854775807) : BytesAt (W.alloc (.cells (l.map (Value.int .u8)).toArray t)) W.heap.size l := ⟨t, (0, 0), heap_alloc_new W _, hl⟩

section
variable {w : World} {L : DL} {D : PD}
/-- 'd.Write(i, b)', b in a block apart from the disk. -/
theorem Write_to (h : IsDisk w L D) (i : Int) (b : List Int) (g c : Nat) (hb : BytesAt w g b) (hg : ¬ L.S g) {r : Int} {D' : PD} (hr : D.write i b = (r, D')) :
    Calls Try.prog 66 #[.pointer (some ⟨L.p, 0, none⟩), .int .i64 i, .slice (some ⟨g, 0, none⟩) b.length c] w fun e w' => e = .returned (.int .i64 r) ∧ IsDisk w' L D' ∧ Only L.S w w' := by
  refine (Write_any h i (some ⟨g, 0, none⟩) c b hb.reads (fun w' ho => (hb.only ho hg).reads)).mono ?_
  rintro e w' ⟨rfl, h1, h2⟩
  rw [hr] at h1 ⊢
  exact ⟨rfl, h1, h2⟩
theorem Flush_to (h : IsDisk w L D) {r : Int} {D' : PD} (hr : D.flush = (r, D')) :
    Calls Try.prog 67 #[.pointer (some ⟨L.p, 0, none⟩)] w fun e w' => e = .returned (.int .i64 r) ∧ IsDisk w' L D' ∧ Only L.S w w' := by
  refine (Flush_any h).mono ?_
  rintro e w' ⟨rfl, h1, h2⟩
  rw [hr] at h1 ⊢
  exact ⟨rfl, h1, h2⟩
/-- 'd.Read(i)' that doesn't. -/
theorem Read_no (h : IsDisk w L D) (i : Int) {r : Int} (hr : D.read i = ([], r)) :
    Calls Try.prog 55 #[.pointer (some ⟨L.p, 0, none⟩), .int .i64 i] w fun e w' => ∃ A c, e = .returned (.tuple #[.slice A 0 c, .int .i64 r]) ∧ IsDisk w' L D ∧ Below w.heap.size w w' := by
  refine (Read_any h i).mono ?_
  rintro e w' ⟨v, rfl, ho, hb⟩
  rw [hr] at ho ⊢
  obtain ⟨A, c, rfl, _⟩ := Kd.R_reads ho
  exact ⟨A, c, rfl, h.below hb, hb⟩
/-- 'd.Read(i)' that goes well: a row of its own in a new block. -/
theorem Read_to (h : IsDisk w L D) (i : Int) {l : List Int} (hr : D.read i = (l, 0)) (hl : l.length = 64) :
    Calls Try.prog 55 #[.pointer (some ⟨L.p, 0, none⟩), .int .i64 i] w fun e w' => ∃ g c, e = .returned (.tuple #[.slice (some ⟨g, 0, none⟩) 64 c, .int .i64 0]) ∧ OwnB w' w.heap.size (fun k => k = g) (.slice (some ⟨g, 0, none⟩) 64 c) l ∧ w.heap.size ≤ g ∧ g < w'.heap.size ∧ IsDisk w' L D ∧ Below w.heap.size w w' := by
  refine (Read_any h i).mono ?_
  rintro e w' ⟨v, rfl, ho, hb⟩
  rw [hr] at ho ⊢
  have hp : 0 < l.length := by omega
  obtain ⟨g, c, rfl, _, _⟩ := (Kd.own_of_R ho).form hp
  rw [hl] at ho
  have ho2 : OwnB w' w.heap.size (fun k => k = g) (.slice (some ⟨g, 0, none⟩) 64 c) l := by
    have h1 := Kd.own_of_R ho
    have := Kd.R_of_own (h1 := fun _ => rfl) (ok := fun k => k = g) h1 (fun k hk => by simpa [Value.ownBlock] using hk.symm)
    exact this
  refine ⟨g, c, ?_, ho2, own_base (Kd.own_of_R ho) g (by simp [Value.ownBlock]), own_lt (Kd.own_of_R ho) g (by simp [Value.ownBlock]), h.below hb, hb⟩
  show Ending.returned (.tuple #[.slice (some ⟨g, 0, none⟩) l.length c, .int .i64 0]) = _
  rw [hl]
theorem own_cell {w : World} {base g n c : Nat} {ok : Nat → Prop} {l : List Int} (h : OwnB w base ok (.slice (some ⟨g, 0, none⟩) n c) l) (j : Nat) (x : Int) (hx : l[j]? = some x) : w.cell? ⟨g, j, none⟩ = some (.int .u8 x) := by
  rw [← add_plain]
  exact (Kd.own_of_R h).cells (g := g) rfl j (.int .u8 x) (by simp [encs, hx])
end
theorem bools_new (W : World) (l : List Bool) (t : TypeId) (hl : l.length ≤ 9223372036854775807) (S : Nat → Prop) (hs : ¬ S W.heap.size) : ∀ W', Only S (W.alloc (.cells (l.map Value.bool).toArray t)) W' → ReadBool W' (some ⟨W.heap.size, 0, none⟩) l.length l := by
  intro W' ho
  have h := (ho.block W.heap.size (by simp) hs).trans (heap_alloc_new W (.cells (l.map Value.bool).toArray t))
  refine ⟨rfl, hl, fun _ => ⟨_, rfl, fun j p hp => ⟨[.bool p], rfl, rfl, fun i u hu => ?_⟩⟩⟩
  have hi : i = 0 := by rcases i with _ | i; rfl; simp at hu
  subst hi
  have hu : Value.bool p = u := by simpa using hu
  subst hu
  have h2 : (⟨W.heap.size, 0, none⟩ : Addr).add (j * Kd.bool.sz + 0) = ⟨W.heap.size, j, none⟩ := by
    show (⟨W.heap.size, 0, none⟩ : Addr).add (j * 1 + 0) = _
    rw [Nat.mul_one, Nat.add_zero]; exact add_plain _ _
  rw [h2, cell_of_row _ _ _ _ _ _ h]
  simp [hp]
theorem IsDisk.fresh {w : World} {L : DL} {D : PD} (h : IsDisk w L D) {g : Nat} (hg : w.heap.size ≤ g) : ¬ L.S g := fun hs => by have := h.lt _ hs; omega
theorem Only.new {S : Nat → Prop} {w w' : World} {B : Nat} (h : Below w.heap.size w w') : Only S w w' := Only.of_below h S
end Go.Proofs.Ytdkijmikafmgaaa.Dk
namespace Go.Proofs.Ytdkijmikafmgaaa.Dk
open Go.RowKit Go.Maps Go.Proofs.YtdkijmikafmgaaaW.PrintWords Go.Proofs.YtdkijmikafmgaaaW.PrintLast Go.Proofs.YtdkijmikafmgaaaW.PrintMore
set_option linter.unusedVariables false
set_option linter.unusedSimpArgs false

theorem next_below {w w1 w2 : World} {S : Nat → Prop} (h : Below w.heap.size w w1) (ho : Only S w1 w2) (hs : ∀ k, S k → w.heap.size ≤ k) : Below w.heap.size w w2 := h.trans (ho.below h.size hs)
theorem next_alloc {w w1 w2 : World} {S : Nat → Prop} {o : Obj} (h : Below w.heap.size w w1) (ho : Only S (w1.alloc o) w2) (hs : ∀ k, S k → w.heap.size ≤ k) : Below w.heap.size w w2 :=
  next_below (h.alloc h.size o) ho hs
theorem next_new {w w1 w2 : World} (h : Below w.heap.size w w1) (hb : Below w1.heap.size w1 w2) : Below w.heap.size w w2 := h.trans (hb.mono h.size)
theorem own_reads_ {w : World} {base n c : Nat} {ok : Nat → Prop} {A : Option Addr} {l : List Int} (h : OwnB w base ok (.slice A n c) l) : n = l.length ∧ n ≤ c ∧ ReadB w A l.length l := by
  obtain ⟨A', c', e, h2, h3⟩ := Kd.R_reads h
  injection e with e1 e2 e3
  subst e1 e2 e3
  exact ⟨rfl, h2, h3⟩
theorem own_put {w : World} {base n c : Nat} {ok : Nat → Prop} {l : List Int} {g : Nat} (h : OwnB w base ok (.slice (some ⟨g, 0, none⟩) n c) l) (j : Nat) (x : Int) : OwnB (w.setCell ⟨g, j, none⟩ (.int .u8 x)) base ok (.slice (some ⟨g, 0, none⟩) n c) (l.set j x) :=
  Kd.R_putn h (j : Int) x
theorem own_at {w : World} {base n c : Nat} {ok : Nat → Prop} {l : List Int} {A : Option Addr} (h : OwnB w base ok (.slice A n c) l) (hl : l.length = n) {j : Nat} (hj : j < n) : ∃ g x, A = some ⟨g, 0, none⟩ ∧ ok g ∧ base ≤ g ∧ w.cell? ⟨g, j, none⟩ = some (.int .u8 x) ∧ w.frozen? ⟨g, j, none⟩ = false := by
  have ho := Kd.own_of_R h
  obtain ⟨g, cap, e, h3, h4⟩ := ho.form (by omega)
  injection e with e1 e2 e3
  subst e1
  have hk : ok g := h.1 g (by simp [Value.ownBlock])
  refine ⟨g, l[j], rfl, hk, own_base ho g (by simp [Value.ownBlock]), ?_, ?_⟩
  · rw [← add_plain]
    exact ho.cells (g := g) rfl j (.int .u8 l[j]) (by simp [encs])
  · obtain ⟨cells, hc⟩ := own_typed ho g (by simp [Value.ownBlock])
    exact frozen_of_row _ _ _ _ _ hc
theorem take_pad {b : List Int} (h : b.length ≤ 64) : (pad b).take b.length = b := by rw [pad_le h, List.take_left]
theorem below_put {w w1 : World} (h : Below w.heap.size w w1) {g : Nat} (hg : w.heap.size ≤ g) (j : Nat) (v : Value) : Below w.heap.size w (w1.setCell ⟨g, j, none⟩ v) := h.setCell hg v
theorem Write_own {w : World} {L : DL} {D : PD} (h : IsDisk w L D) (i : Int) {b : List Int} {A : Option Addr} {c base : Nat} {ok : Nat → Prop} (hb : OwnB w base ok (.slice A b.length c) b) (hok : ∀ k, ok k → ¬ L.S k) {r : Int} {D' : PD} (hr : D.write i b = (r, D')) :
    Calls Try.prog 66 #[.pointer (some ⟨L.p, 0, none⟩), .int .i64 i, .slice A b.length c] w fun e w' => e = .returned (.int .i64 r) ∧ IsDisk w' L D' ∧ Only L.S w w' := by
  have hrd : ∀ W base ok, OwnB W base ok (.slice A b.length c) b → ReadB W A b.length b := fun W base ok ho => by
    obtain ⟨A', c', e, _, h3⟩ := Kd.R_reads ho
    injection e with e1 e2 e3
    rw [e1]; exact h3
  refine (Write_any h i A c b (hrd _ _ _ hb) (fun w' ho => hrd _ _ _ (own_only hb ho hok))).mono ?_
  rintro e w' ⟨rfl, h1, h2⟩
  rw [hr] at h1 ⊢
  exact ⟨rfl, h1, h2⟩
abbrev ReadRows (w : World) (A : Option Addr) (n : Nat) (l : List (List Int)) : Prop := Kd.C (Kd.slice 5 (Kd.int .u8)) w A n l
theorem rows_cell {w : World} {A : Option Addr} {l : List (List Int)} (h : ReadRows w A l.length l) {k : Nat} (hk : k < l.length) : ∃ ad Aj cj, A = some ad ∧ w.cell? (ad.add k) = some (.slice Aj (l.getD k []).length cj) ∧ ReadB w Aj (l.getD k []).length (l.getD k []) := by
  obtain ⟨ad, e, hc⟩ := h.2.2 (by omega)
  obtain ⟨c, h1, ⟨Aj, cj, h2, h5, h6⟩, h3⟩ := hc k l[k] (List.getElem?_eq_getElem hk)
  have h4 : l.getD k [] = l[k] := by rw [List.getD_eq_getElem?_getD, List.getElem?_eq_getElem hk]; rfl
  rw [h4]
  refine ⟨ad, Aj, cj, e, ?_, h6⟩
  have := h3 0 (.slice Aj l[k].length cj) (by rw [h2]; rfl)
  simpa [Kd.slice] using this
theorem Write_read {w wr : World} {L : DL} {D : PD} (h : IsDisk wr L D) (hB : Below w.heap.size w wr) (hL : ∀ k, L.S k → w.heap.size ≤ k) (i : Int) {b : List Int} {A : Option Addr} {c : Nat} (hb : ReadB w A b.length b) {r : Int} {D' : PD} (hr : D.write i b = (r, D')) :
    Calls Try.prog 66 #[.pointer (some ⟨L.p, 0, none⟩), .int .i64 i, .slice A b.length c] wr fun e w' => e = .returned (.int .i64 r) ∧ IsDisk w' L D' ∧ Only L.S wr w' := by
  refine (Write_any h i A c b (Kd.C_below hb hB) (fun w' ho => Kd.C_below hb (next_below hB ho hL))).mono ?_
  rintro e w' ⟨rfl, h1, h2⟩
  rw [hr] at h1 ⊢
  exact ⟨rfl, h1, h2⟩
theorem made64 : ∀ W : World, (Instr.makeSlice 37 (.int .i64 64) (.int .i64 64)).run Try.prog W = .ok (.slice (some ⟨W.heap.size, 0, none⟩) 64 64) (W.alloc (.cells zc 5)) := by
  intro W
  have := print_make (P := Try.prog) 37 5 .u8 1 Try.underlying37 info_u8 (by omega) 64 (by omega) W
  have e : madeCells #[.int .u8 0] 64 = zc := by kernel_rfl
  rw [← e]; exact this
/-- Bytes copied into a new sector of noughts. -/
theorem copy_to (W : World) (Z : Array Value) (hZ : Z.toList = zlist) (t : TypeId) (A : Option Addr) (c : Nat) (b : List Int) (ty : TypeId) (hb : b.length ≤ 64) (hr : ReadB W A b.length b) :
    (Builtin.copy_ #[37, 37] ty #[.slice (some ⟨W.heap.size, 0, none⟩) 64 64, .slice A b.length c]).run Try.prog (W.alloc (.cells Z t)) = .ok (.int .i64 (b.length : Int)) (W.alloc (.cells ((pad b).map (Value.int .u8)).toArray t)) := by
  have hs : (Try.prog.info? 5).map (·.size) = some 1 := by kernel_rfl
  have hZs : Z.size = 64 := by rw [← Array.length_toList, hZ]; simp [zlist]
  rcases Nat.eq_zero_or_pos b.length with h0 | h0
  · obtain rfl : b = [] := List.length_eq_zero_iff.1 h0
    have := run_copy_none (P := Try.prog) (W.alloc (.cells Z t)) 37 37 ty 5 (some ⟨W.heap.size, 0, none⟩) A 64 64 0 c Try.underlying37 hs (by rfl)
    have hz : Z = ((pad []).map (Value.int .u8)).toArray := by
      apply Array.toList_inj.1
      rw [hZ, ← pad_cells (by simp)]; rfl
    rw [← hz]
    exact this
  · obtain ⟨ad, rfl, hc⟩ := hr.2.2 h0
    have hr2 := Kd.C_below hr ((Below.refl _ _).alloc (Nat.le_refl _) (.cells Z t))
    have hlen : (b.map (Value.int .u8)).length = b.length := List.length_map ..
    have := run_copy_cells (P := Try.prog) (W.alloc (.cells Z t)) 37 37 ty 5 W.heap.size 0 64 64 ad b.length c (b.map (Value.int .u8)) Try.underlying37 hs (by rw [hlen]; show b.length = min b.length 64; omega)
      (fun j v hv => by
        obtain ⟨ad2, e, hc2⟩ := hr2.2.2 h0
        cases e
        rw [List.getElem?_map] at hv
        cases hq : b[j]? with
        | none => rw [hq] at hv; cases hv
        | some x =>
          rw [hq] at hv
          obtain ⟨c', hc3, hc4, hc5⟩ := hc2 j x hq
          have := hc5 0 v (by rw [show c' = [.int .u8 x] from hc4]; exact hv)
          simpa [Kd.int, Kd.scalar] using this)
      (fun j hj => by rw [cell_of_row _ _ _ _ _ _ (heap_alloc_new W _), Array.getElem?_eq_getElem (by rw [hlen] at hj; omega)]; rfl)
      (fun j hj => frozen_of_row _ _ _ _ _ (heap_alloc_new W _)) (by intro v hv; obtain ⟨x, _, rfl⟩ := List.mem_map.1 hv; rfl)
    rw [hlen] at this
    rw [setCells_new W Z _ _ (by rw [hlen]; omega), hlen, hZ, pad_cells hb] at this
    exact this
theorem conv_own {w : World} {base n c : Nat} {ok : Nat → Prop} {A : Option Addr} {l : List Int} (h : OwnB w base ok (.slice A n c) l) (o : Obj) : (convert 37 9 (.slice A n c)).run Try.prog (w.alloc o) = .ok (.string (strOfNums l)) (w.alloc o) := by
  have h1 := own_reads_ (Kd.R_below h ((Below.refl _ _).alloc (Nat.le_refl _) o))
  have h2 := h1.2.2
  rw [← h1.1] at h2
  exact Kd.C_string Try.underlying37 Try.underlying5 Try.underlying9 h2
theorem conv_new (w : World) (l : List Int) (hl : l.length = 64) : (convert 37 9 (.slice (some ⟨w.heap.size, 0, none⟩) 64 64)).run Try.prog (w.alloc (.cells (l.map (Value.int .u8)).toArray 5)) = .ok (.string (strOfNums l)) (w.alloc (.cells (l.map (Value.int .u8)).toArray 5)) := by
  have h2 := (bytes_new w l 5 (by omega)).reads
  rw [hl] at h2
  exact Kd.C_string Try.underlying37 Try.underlying5 Try.underlying9 h2
abbrev ReadI (w : World) (A : Option Addr) (n : Nat) (l : List Int) : Prop := Kd.C (Kd.int .i64) w A n l
theorem int_cell {w : World} {A : Option Addr} {l : List Int} (h : ReadI w A l.length l) {k : Nat} (hk : k < l.length) : ∃ ad, A = some ad ∧ w.cell? (ad.add k) = some (.int .i64 (l.getD k 0)) := by
  obtain ⟨ad, e, hc⟩ := h.2.2 (by omega)
  obtain ⟨c, h1, h2, h3⟩ := hc k l[k] (List.getElem?_eq_getElem hk)
  refine ⟨ad, e, ?_⟩
  have h4 : l.getD k 0 = l[k] := by rw [List.getD_eq_getElem?_getD, List.getElem?_eq_getElem hk]; rfl
  have := h3 0 (.int .i64 l[k]) (by rw [show c = [.int .i64 l[k]] from h2]; rfl)
  rw [h4]
  simpa [Kd.int, Kd.scalar] using this
end Go.Proofs.Ytdkijmikafmgaaa.Dk
namespace Go.Proofs.Ytdkijmikafmgaaa.Dk
open Go.RowKit Go.Maps Go.Proofs.YtdkijmikafmgaaaW.PrintWords Go.Proofs.YtdkijmikafmgaaaW.PrintLast Go.Proofs.YtdkijmikafmgaaaW.PrintMore
set_option linter.unusedVariables false
set_option linter.unusedSimpArgs false

theorem norml_ {P : Program} {ops : Array Oper} {rest : List Oper} {a a' : Act} {Q : Exit → Act → World → Prop} {W : World} (ha : a = a') (h : wpList P ops Q rest a' W) : wpList P ops Q rest a W := ha ▸ h
section
variable {P : Program} {oi : Oper} {ρ : Operand → Value} {v : Value}
theorem exec_move {x : Operand} (hop : oi.op = .move x ∨ oi.op = .assign x) (hx : ρ x = v) : ∀ w, (execOp ρ oi).run P w = .ok (.value v) w := by
  intro w
  unfold execOp
  rcases hop with hop | hop <;> simp [hop, hx]
theorem exec_slice {t : TypeId} {x : Operand} {lo hi mx : Option Operand} (hop : oi.op = .slice t x lo hi mx) (h : ∀ w, (Instr.sliceAt t (ρ x) (lo.map ρ) (hi.map ρ) (mx.map ρ)).run P w = .ok v w) : ∀ w, (execOp ρ oi).run P w = .ok (.value v) w := by
  intro w
  unfold execOp
  simp [hop, Sem.run_bind, h w, Result.andThen]
theorem exec_load {t : TypeId} {x : Operand} {w : World} (hop : oi.op = .load t x) (h : (Instr.loadAt t (ρ x)).run P w = .ok v w) : (execOp ρ oi).run P w = .ok (.value v) w := by
  unfold execOp
  simp [hop, Sem.run_bind, h, Result.andThen]
theorem exec_build {t : TypeId} {n : Nat} {parts : Array (Nat × Operand)} {w w1 : World} (hop : oi.op = .buildSlice t n parts) (h : (Instr.buildSlice t n (parts.map fun (i, x) => (i, ρ x))).run P w = .ok v w1) : (execOp ρ oi).run P w = .ok (.value v) w1 := by
  unfold execOp
  simp [hop, Sem.run_bind, h, Result.andThen]
theorem exec_build1 {t : TypeId} {x : Operand} {v' : Value} {w w1 : World} (hop : oi.op = .buildSlice t 1 #[(0, x)]) (hx : ρ x = v') (h : (Instr.buildSlice t 1 #[(0, v')]).run P w = .ok v w1) : (execOp ρ oi).run P w = .ok (.value v) w1 := by
  unfold execOp
  simp [hop, Sem.run_bind, hx, h, Result.andThen]
end
section
variable {P : Program} {oi : Oper} {rest : List Oper} {ops : Array Oper} {a : Act} {Q : Exit → Act → World → Prop} {w w1 : World} {v : Value}
theorem wpList_value (hg : oi.guard = none) (hrun : (execOp a.eval oi).run P w = .ok (.value v) w1) (h : wpList P ops Q rest (a.put oi.dst v) w1) : wpList P ops Q (oi :: rest) a w :=
  wpList_plain hg fun K hK => by unfold Oper.wp; rw [hrun]; exact hK _ _ h
theorem wpList_skip (hg : oi.guard = none) (hrun : (execOp a.eval oi).run P w = .ok .skip w1) (h : wpList P ops Q rest (a.put oi.dst undef) w1) : wpList P ops Q (oi :: rest) a w :=
  wpList_plain hg fun K hK => by unfold Oper.wp; rw [hrun]; exact hK _ _ h
theorem wpList_skip0 (hg : oi.guard = none) (hN : oi.dst = none) (hrun : (execOp a.eval oi).run P w = .ok .skip w1) (h : wpList P ops Q rest a w1) : wpList P ops Q (oi :: rest) a w :=
  wpList_skip hg hrun (by rw [hN]; exact h)
theorem gate_op (op : Op) (_ho : oi.op = op) (h : wpList P ops Q (oi :: rest) a w) : wpList P ops Q (oi :: rest) a w := h
theorem exec_index {ρ : Operand → Value} {t : TypeId} {x ix : Operand} (hop : oi.op = .indexAddr t x ix) (h : (Instr.indexAt t (ρ x) (ρ ix)).run P w = .ok v w) : (execOp ρ oi).run P w = .ok (.value v) w := by
  unfold execOp
  simp [hop, Sem.run_bind, h, Result.andThen]
theorem exec_store {ρ : Operand → Value} {t : TypeId} {x y : Operand} (hop : oi.op = .store t x y) (h : (Instr.storeAt t (ρ x) (ρ y)).run P w = .ok () w1) : (execOp ρ oi).run P w = .ok .skip w1 := by
  unfold execOp
  simp [hop, Sem.run_bind, h, Result.andThen]
theorem exec_store2 {ρ : Operand → Value} {t : TypeId} {x y : Operand} {vx vy : Value} (hop : oi.op = .store t x y) (hx : ρ x = vx) (hy : ρ y = vy) (h : (Instr.storeAt t vx vy).run P w = .ok () w1) : (execOp ρ oi).run P w = .ok .skip w1 := exec_store hop (by rw [hx, hy]; exact h)
end
theorem index_first (W : World) (g n c : Nat) : (Instr.indexAt 72 (.slice (some ⟨g, 0, none⟩) (n + 1) c) (.int .i64 0)).run Try.prog W = .ok (.pointer (some ⟨g, 0, none⟩)) W := by
  have hu := Try.underlying72
  go_simp
  try rfl
theorem store_first (W : World) (g : Nat) (u : Value) (A : Option Addr) (n c : Nat) (hc : W.cell? ⟨g, 0, none⟩ = some u) (hf : W.frozen? ⟨g, 0, none⟩ = false) : (Instr.storeAt 37 (.pointer (some ⟨g, 0, none⟩)) (.slice A n c)).run Try.prog W = .ok () (W.setCell ⟨g, 0, none⟩ (.slice A n c)) := by
  have hu := Try.underlying37
  go_simp
theorem info_sl1 : (Try.prog.info? 37).map (fun i => (i.zero, i.size)) = some (some (.slice none 0 0), 1) := by kernel_rfl
/-- A slice literal of one row. -/
theorem build_row (W : World) (A : Option Addr) (n c : Nat) : (Instr.buildSlice 72 1 #[(0, .slice A n c)]).run Try.prog W = .ok (.slice (some ⟨W.heap.size, 0, none⟩) 1 1) (W.alloc (.cells #[.slice A n c] 37)) := by
  obtain ⟨ie, hie, hzz⟩ := Option.map_eq_some_iff.1 info_sl1
  simp only [Prod.mk.injEq] at hzz
  obtain ⟨hz, hs⟩ := hzz
  refine run_buildSlice W 72 37 1 _ #[.slice A n c] ie (.slice none 0 0) Try.underlying72 hie hz (by rw [hs]; decide) (by rw [hs]; decide) ?_
  rw [hs]
  first | kernel_rfl | (simp [Instr.fill, Array.range]; done)
/-- A row of rows, from the second on. -/
theorem slice_from1 (g n c : Nat) (hn : n + 1 ≤ c) (hp : 0 < n) : ∀ W : World, (Instr.sliceAt 72 (.slice (some ⟨g, 0, none⟩) (n + 1) c) (some (.int .i64 1)) none none).run Try.prog W = .ok (.slice (some ⟨g, 1, none⟩) n (c - 1)) W := by
  intro W
  have ht : Try.prog.underlying 72 = some (.slice 37) := Try.underlying72
  have hel : Try.prog.elem 72 = 37 := by simp [Program.elem, ht]
  have hu : Try.prog.underlying 72 = some (.slice (Try.prog.elem 72)) := by rw [hel]; exact ht
  obtain ⟨ie, hie, hzz⟩ := Option.map_eq_some_iff.1 info_sl1
  simp only [Prod.mk.injEq] at hzz
  obtain ⟨hz, hs⟩ := hzz
  rw [run_sliceAt_slice W _ _ _ _ _ hu, run_slice_l W _ _ _ _ hu .i64 1 (by omega) (by omega), hel]
  simp [sizeOf, typeInfo, hie, hs, sliced, Result.andThen]
  rw [if_neg (by omega)]; rfl
end Go.Proofs.Ytdkijmikafmgaaa.Dk
