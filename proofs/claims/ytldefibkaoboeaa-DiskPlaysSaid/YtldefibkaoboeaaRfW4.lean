/-
What the reference's New does.
-/
import Derived.Test.YtldefibkaoboeaaRfW3
import Derived.Test.YtldefibkaoboeaaDkSteps
namespace Go.Proofs.Ytldefibkaoboeaa.Dk
open Go.RowKit Go.Maps Go.Proofs.YtldefibkaoboeaaW.PrintWords Go.Proofs.YtldefibkaoboeaaW.PrintLast Go.Proofs.YtldefibkaoboeaaW.PrintMore
set_option linter.unusedVariables false
set_option linter.unusedSimpArgs false

theorem info_bool : (Try.prog.info? 4).map (fun i => (i.zero, i.size, i.bytes)) = some (some (.bool false), 1, 1) := by kernel_rfl
theorem info_row : (Try.prog.info? 22).map (fun i => (i.zero, i.size, i.bytes)) = some (some (.slice none 0 0), 1, 24) := by kernel_rfl
theorem made_bools (n : Nat) (h : n ≤ 4096) : ∀ W : World, (Instr.makeSlice 32 (.int .i64 (n : Int)) (.int .i64 (n : Int))).run Try.prog W = .ok (.slice (some ⟨W.heap.size, 0, none⟩) n n) (W.alloc (.cells (madeCells #[.bool false] n) 4)) :=
  print_make_of (P := Try.prog) 32 4 (.bool false) 1 Try.underlying32 info_bool rfl (by omega) n (by omega)
theorem made_rows (n : Nat) (h : n ≤ 4096) : ∀ W : World, (Instr.makeSlice 31 (.int .i64 (n : Int)) (.int .i64 (n : Int))).run Try.prog W = .ok (.slice (some ⟨W.heap.size, 0, none⟩) n n) (W.alloc (.cells (madeCells #[.slice none 0 0] n) 22)) :=
  print_make_of (P := Try.prog) 31 22 (.slice none 0 0) 24 Try.underlying31 info_row rfl (by omega) n (by omega)
section
variable {P : Program} {oi : Oper} {ρ : Operand → Value} {v v1 v2 : Value} {w w1 : World}
theorem exec_make {t : TypeId} {x y : Operand} (hop : oi.op = .makeSlice t x y) (hx : ρ x = v1) (hy : ρ y = v2) (h : (Instr.makeSlice t v1 v2).run P w = .ok v w1) : (execOp ρ oi).run P w = .ok (.value v) w1 := by
  unfold execOp
  simp [hop, Sem.run_bind, hx, hy, h, Result.andThen]
end
theorem exec_append {P : Program} {oi : Oper} {ρ : Operand → Value} {v u r : Value} {w w1 : World} {s x : Operand} {t : TypeId} (hop : oi.op = .call { callee := .builtin .append, args := #[s, x], argTypes := #[t, t] }) (hs : ρ s = v) (hx : ρ x = u) (h : (Builtin.append_ #[t, t] oi.type #[v, u]).run P w = .ok r w1) :
    (execOp ρ oi).run P w = .ok (.value r) w1 := by
  unfold execOp
  simp only [hop, resolve, invoke, builtin, Sem.run_bind, Sem.run_pure, Result.andThen_ok, List.map_toArray, List.map_cons, List.map_nil, hs, hx, h]
theorem store_rows (W : World) (p : Nat) (u : Value) (A : Option Addr) (n c : Nat) (hc : W.cell? ⟨p, 0, none⟩ = some u) (hf : W.frozen? ⟨p, 0, none⟩ = false) : (Instr.storeAt 31 (.pointer (some ⟨p, 0, none⟩)) (.slice A n c)).run Try.prog W = .ok () (W.setCell ⟨p, 0, none⟩ (.slice A n c)) := by
  have hu := Try.underlying31
  go_simp
/-- What the two 'make's leave. -/
structure Made2 (w0 w : World) (gb gp n : Nat) : Prop where
  bl : Below w0.heap.size w0 w
  b : w.heap[gb]? = some (.cells (madeCells #[.bool false] n) 4 (0, 0))
  p : w.heap[gp]? = some (.cells (madeCells #[.slice none 0 0] n) 22 (0, 0))
  lb : w0.heap.size ≤ gb
  lp : w0.heap.size ≤ gp
/-- A slice by its words. -/
structure HV where
  A : Option Addr
  n : Nat
  c : Nat
def HV.v (s : HV) : Value := .slice s.A s.n s.c
def hvK : Kd HV := Kd.scalar HV.v (fun _ => rfl)
def zb : List Int := List.replicate 64 0
theorem zc_zb : zc = (zb.map (Value.int .u8)).toArray := by kernel_rfl
theorem append_one {W : World} {base : Nat} {ok : Nat → Prop} {v : Value} {xs : List HV} (ty : TypeId) (s : HV) (HO : Kd.R hvK 22 W base ok v xs) (hbase : base ≤ W.heap.size) (hfresh : ∀ k, W.heap.size ≤ k → ok k) (hl : xs.length ≤ 5000) :
    ∃ v' w', (Builtin.append_ #[31, 31] ty #[v, .slice (some ⟨W.heap.size, 0, none⟩) 1 1]).run Try.prog (W.alloc (.cells #[s.v] 22)) = .ok v' w' ∧ Kd.R hvK 22 w' base ok v' (xs ++ [s]) ∧ W.grownBy w' v.ownBlock := by
  obtain ⟨h0, inner, hown, hr⟩ := HO
  obtain ⟨i0, hi, hzz⟩ := Option.map_eq_some_iff.1 info_row
  simp only [Prod.mk.injEq] at hzz
  obtain ⟨hz0, hz1, hz2⟩ := hzz
  obtain ⟨v', w', e1, e2, e3, -, e5⟩ := run_append_own_at (P := Try.prog) (W.alloc (.cells #[s.v] 22)) base 31 ty 22 i0 (.slice none 0 0) 1 24 Try.underlying31 hi hz0 hz1 hz2 rfl (by decide) v xs.length inner (hown.alloc _) ⟨W.heap.size, 0, none⟩ 1 1 [s.v] rfl (cell_one_new _ _ _) (by intro u hu; obtain rfl := List.mem_singleton.1 hu; rfl) (by simp only [maxLen]; omega) (by omega) (by simp; omega)
  have hg : W.grownBy w' v.ownBlock := World.grownBy.trans (World.grownBy_alloc W _ _) e3
  exact ⟨v', w', e1, Kd.R_appended h0 hr (okp := fun _ => False) (p := s) rfl (fun _ h => h.elim) hfresh e2 hg (by
    rcases e5 with h | h
    · exact .inl h
    · exact .inr ⟨_, h, by simp⟩), hg⟩
/-- The reference's disk while it is made: j sectors so far. -/
structure Part (w0 w : World) (p gb gp n : Nat) (v0 : Value) (vs : List HV) : Prop where
  bl : Below w0.heap.size w0 w
  hb : w.heap[gb]? = some (.cells (madeCells #[.bool false] n) 4 (0, 0))
  hp : w.heap[gp]? = some (.cells (madeCells #[.slice none 0 0] n) 22 (0, 0))
  self : w.heap[p]? = some (.cells #[v0, .slice (some ⟨gp, 0, none⟩) n n, .slice (some ⟨gb, 0, none⟩) n n, .int .i64 0, .bool false, .bool false] 54 (0, 0))
  lp : w0.heap.size ≤ p ∧ w0.heap.size ≤ gb ∧ w0.heap.size ≤ gp
  own : Kd.R hvK 22 w w0.heap.size (fun k => w0.heap.size ≤ k ∧ k ≠ p ∧ k ≠ gb ∧ k ≠ gp) v0 vs
  rows : ∀ s ∈ vs, ∃ g, s = ⟨some ⟨g, 0, none⟩, 64, 64⟩ ∧ Row w g zb
theorem Kept8.of_grown {α : Type} {d : Kd α} {e base : Nat} {ok : Nat → Prop} {w w' : World} {v : Value} {xs : List α} (hg : w.grownBy w' v.ownBlock) (h : d.R e w base ok v xs) (he : e ≠ 5) : Kept8 w w' :=
  fun g c hc => (hg.block g (Array.getElem?_eq_some_iff.1 hc).1 (fun hk => by
    obtain ⟨cells, h2⟩ := Kd.R_typed h g hk.symm
    rw [hc] at h2
    injection h2 with h2
    injection h2 with _ h2
    exact he h2.symm)).trans hc
theorem Part.lts {w0 w : World} {p gb gp n : Nat} {v0 : Value} {vs : List HV} (h : Part w0 w p gb gp n v0 vs) : p < w.heap.size ∧ gb < w.heap.size ∧ gp < w.heap.size :=
  ⟨(Array.getElem?_eq_some_iff.1 h.self).1, (Array.getElem?_eq_some_iff.1 h.hb).1, (Array.getElem?_eq_some_iff.1 h.hp).1⟩
theorem Part.ne {w0 w : World} {p gb gp n : Nat} {v0 : Value} {vs : List HV} (h : Part w0 w p gb gp n v0 vs) : p ≠ gb ∧ p ≠ gp ∧ gb ≠ gp := by
  have h1 := h.self
  have h2 := h.hb
  have h3 := h.hp
  refine ⟨fun e => ?_, fun e => ?_, fun e => ?_⟩
  · rw [e, h2] at h1; injection h1 with h1; injection h1 with _ h1; exact absurd h1 (by decide)
  · rw [e, h3] at h1; injection h1 with h1; injection h1 with _ h1; exact absurd h1 (by decide)
  · rw [e, h3] at h2; injection h2 with h2; injection h2 with _ h2; exact absurd h2 (by decide)
theorem Part.drew {w0 w : World} {p gb gp n : Nat} {v0 : Value} {vs : List HV} (h : Part w0 w p gb gp n v0 vs) : Part w0 w.drew p gb gp n v0 vs :=
  ⟨h.bl.drew, h.hb, h.hp, h.self, h.lp, Kd.R_below h.own ((Below.refl _ _).drew), fun s hs => by obtain ⟨g, e, hr⟩ := h.rows s hs; exact ⟨g, e, hr.kept (Kept8.drew w)⟩⟩
/-- One sector more. -/
theorem Part.step {w0 w w1 w2 : World} {p gb gp n : Nat} {v0 v1 : Value} {vs : List HV} (h : Part w0 w p gb gp n v0 vs) {g : Nat} (ha : Below w.heap.size w w1) (hr : Row w1 g zb)
    (ho : Kd.R hvK 22 w2 w0.heap.size (fun k => w0.heap.size ≤ k ∧ k ≠ p ∧ k ≠ gb ∧ k ≠ gp) v1 (vs ++ [⟨some ⟨g, 0, none⟩, 64, 64⟩])) (hb : Below w0.heap.size w0 w2) (hg : w1.grownBy w2 v0.ownBlock) :
    Part w0 (w2.setCell ⟨p, 0, none⟩ v1) p gb gp n v1 (vs ++ [⟨some ⟨g, 0, none⟩, 64, 64⟩]) := by
  obtain ⟨l1, l2, l3⟩ := h.lts
  obtain ⟨n1, n2, n3⟩ := h.ne
  have hown := Kd.R_below h.own ha
  have hk : ∀ k, k < w.heap.size → (k = p ∨ k = gb ∨ k = gp) → w2.heap[k]? = w.heap[k]? := fun k hk he => by
    refine (hg.block k (Nat.lt_of_lt_of_le hk ha.size) (fun e => ?_)).trans (ha.block k hk)
    have := h.own.1 k e.symm
    omega
  have k8 : Kept8 w w2 := (Kept8.of_below ha).trans (Kept8.of_grown hg hown (by decide))
  have k81 : Kept8 w1 w2 := Kept8.of_grown hg hown (by decide)
  have hp := (hk p l1 (.inl rfl)).trans h.self
  have hs : ∀ q, q ≠ p → (w2.setCell ⟨p, 0, none⟩ v1).heap[q]? = w2.heap[q]? := fun q hq => heap_setCell_other _ _ _ _ hq
  have k82 : Kept8 w2 (w2.setCell ⟨p, 0, none⟩ v1) := fun q c hq => (hs q (fun e => by rw [e, hp] at hq; injection hq with hq; injection hq with _ hq; exact absurd hq (by decide))).trans hq
  refine ⟨hb.setCell h.lp.1 v1, (hs _ (Ne.symm n1)).trans ((hk gb l2 (.inr (.inl rfl))).trans h.hb), (hs _ (Ne.symm n2)).trans ((hk gp l3 (.inr (.inr rfl))).trans h.hp), ?_, h.lp, ?_, ?_⟩
  · rw [heap_setCell_same w2 p 0 _ _ v1 hp]; rfl
  · refine own_only ho (Only.setCell (S := fun k => k = p) w2 rfl v1) (fun k hk e => hk.2.1 e)
  · intro s hs'
    rcases List.mem_append.1 hs' with hs' | hs'
    · obtain ⟨g', e, hr'⟩ := h.rows s hs'; exact ⟨g', e, (hr'.kept k8).kept k82⟩
    · obtain rfl := List.mem_singleton.1 hs'; exact ⟨g, rfl, (hr.kept k81).kept k82⟩
theorem Part.at_ {w0 w w1 w2 : World} {p gb gp n : Nat} {v0 : Value} {vs : List HV} (h : Part w0 w p gb gp n v0 vs) (ha : Below w.heap.size w w1) (hg : w1.grownBy w2 v0.ownBlock) :
    w2.cell? ⟨p, 0, none⟩ = some v0 ∧ w2.frozen? ⟨p, 0, none⟩ = false := by
  obtain ⟨l1, l2, l3⟩ := h.lts
  have hp : w2.heap[p]? = w.heap[p]? := by
    refine (hg.block p (Nat.lt_of_lt_of_le l1 ha.size) (fun e => ?_)).trans (ha.block p l1)
    have := h.own.1 p e.symm
    omega
  rw [h.self] at hp
  exact ⟨by rw [cell_of_row _ _ _ _ _ _ hp]; rfl, frozen_of_row _ _ _ _ _ hp⟩
theorem made_get (z : Value) (n i : Nat) (hi : i < n) : (madeCells #[z] n)[i]? = some z := by
  have : (madeCells #[z] n).size = n := by rw [size_madeCells]
  rw [Array.getElem?_eq_getElem (by omega)]
  congr 1
  simp [madeCells, Nat.mod_one]
theorem Part.done {w0 w : World} {p gb gp n : Nat} {v0 : Value} {vs : List HV} (h : Part w0 w p gb gp n v0 vs) (hl : vs.length = n) (h1 : 1 ≤ n) (h2 : n ≤ 4096) : ∃ R : RL, R.p = p ∧ IsRef w R (PD.new n) ∧ (∀ k, R.S k → w0.heap.size ≤ k) := by
  have ho := Kd.own_of_R h.own
  obtain ⟨gs, cap, rfl, h3, h4⟩ := ho.form (by omega)
  have hok := h.own.1 gs (by simp [Value.ownBlock])
  obtain ⟨cells, hc⟩ := own_typed ho gs (by simp [Value.ownBlock])
  have hz : ∀ i : Nat, ((PD.new n).st i) = zb := fun _ => rfl
  refine ⟨⟨p, gs, cap, gp, gb⟩, rfl, ⟨PD.Good.new h1 h2, ⟨0, ?_, fun h => by have h : (0 : Int) ≤ -1 := h; omega⟩, ⟨cells, hc, fun i hi => ?_⟩, ⟨_, h.hp, fun i hi => ⟨.slice none 0 0, made_get _ n i hi, rfl⟩⟩, ⟨_, h.hb, fun i hi => made_get _ n i hi⟩, hok.2.2.2⟩, ?_⟩
  · rw [h.self, hl]; rfl
  · have hi : i < n := hi
    obtain ⟨g, e, hr⟩ := h.rows vs[i] (List.getElem_mem _)
    refine ⟨g, ?_, hr⟩
    have hx := ho.cells (g := gs) rfl i vs[i].v (by simp only [encs, List.getElem?_map]; rw [List.getElem?_eq_getElem (by omega)]; rfl)
    rw [add_plain, cell_of_row _ _ _ _ _ _ hc] at hx
    rw [hx, e]; rfl
  · rintro k (rfl | rfl | rfl | rfl)
    · exact h.lp.1
    · exact hok.1
    · exact h.lp.2.2
    · exact h.lp.2.1
set_option maxHeartbeats 1000000 in
set_option maxRecDepth 100000 in
theorem rNew_good {w : World} {n : Nat} (h1 : 1 ≤ n) (h2 : n ≤ 4096) :
    Calls Try.prog 20 #[.int .i64 (n : Int)] w fun e w' => ∃ R : RL, e = .returned (.pointer (some ⟨R.p, 0, none⟩)) ∧ IsRef w' R (PD.new n) ∧ (∀ k, R.S k → w.heap.size ≤ k) ∧ Below w.heap.size w w' := by
  have hmb := made_bools n h2
  have hmr := made_rows n h2
  go_enter Try.func20, Try.ntmps20
  go_wp2_with fail
  skip
  refine start_ (n := 7) (S := fun _ => True) (ds := []) #[false, false, false, false, false, false, false] (by kernel_rfl) rfl rfl trivial (fun hHeld => ?_)
  refine pure_ (i := 0) (N := (some 5)) (v := ?_) (a' := ?_) #[true, false, false, false, false, false, false] rfl rfl (by kernel_rfl) (fun _ _ _ h => h) (Or.inl ⟨by rfl, ?_⟩) ?_ ?_
  rotate_left
  · intro w'
    go_simp
    with_reducible rfl
  rotate_left
  · simp only [Act.put, List.setIfInBounds_toArray, List.set_cons_zero, List.set_cons_succ, i64_w, i32_w]
    rfl
  refine pure_ (i := 2) (N := (some 7)) (v := ?_) (a' := ?_) #[true, false, true, false, false, false, false] rfl rfl (by kernel_rfl) (fun _ _ _ h => h) (Or.inl ⟨by rfl, ?_⟩) ?_ ?_
  rotate_left
  · intro w'
    go_simp
    with_reducible rfl
  rotate_left
  · simp only [Act.put, List.setIfInBounds_toArray, List.set_cons_zero, List.set_cons_succ, i64_w, i32_w]
    rfl
  refine join_ 3 #[true, true, true, true, false, false, false] (fun s : Nat × Nat => [(6, .slice (some ⟨s.1, 0, none⟩) n n), (8, .slice (some ⟨s.2, 0, none⟩) n n)]) (fun s w' => Made2 w w' s.1 s.2 n) ?_ ?_
  · rintro ⟨gb, gp⟩ w2 hM
    have HM := Fact.mk hM
    clear hM hmb hmr
    simp only [putAll, Act.put, List.setIfInBounds_toArray, List.set_cons_zero, List.set_cons_succ]
    skip
    refine pure_ (i := 4) (N := (some 9)) (v := ?_) (a' := ?_) #[true, true, true, true, true, false, false] rfl rfl (by kernel_rfl) (fun _ _ _ h => h) (Or.inl ⟨by rfl, ?_⟩) ?_ ?_
    rotate_left
    · intro w'
      go_simp
      with_reducible rfl
    rotate_left
    · simp only [Act.put, List.setIfInBounds_toArray, List.set_cons_zero, List.set_cons_succ, i64_w, i32_w]
      rfl
    refine one_ (i := 5) (N := (some 10)) #[true, true, true, true, true, true, false] rfl rfl (by kernel_rfl) (by decide) (fun K hK => ?_)
    refine value_ (v := .pointer (some ⟨w2.heap.size, 0, none⟩)) (w1 := w2.alloc (.cells #[.slice none 0 0, .slice (some ⟨gp, 0, none⟩) n n, .slice (some ⟨gb, 0, none⟩) n n, .int .i64 0, .bool false, .bool false] 54)) rfl rfl (by go_simp) ?_
    refine hK.out _ _ trivial (fun _ => ?_)
    refine norm_ (a' := ?_) ?_ ?_
    rotate_left
    · show Act.put _ (some 10) _ = _
      simp only [Act.put, List.setIfInBounds_toArray, List.set_cons_zero, List.set_cons_succ, i64_w, i32_w]
      rfl
    refine pure_ (i := 6) (N := (some 3)) (v := ?_) (a' := ?_) #[true, true, true, true, true, true, true] rfl rfl (by kernel_rfl) (fun _ _ _ h => h) (Or.inl ⟨by rfl, ?_⟩) ?_ ?_
    rotate_left
    · intro w'
      go_simp
      with_reducible rfl
    rotate_left
    · simp only [Act.put, List.setIfInBounds_toArray, List.set_cons_zero, List.set_cons_succ, i64_w, i32_w]
      rfl
    refine done_ (by kernel_rfl) ?_
    have P0 : Fact (∃ vs, vs.length = 0 ∧ Part w (w2.alloc (.cells #[.slice none 0 0, .slice (some ⟨gp, 0, none⟩) n n, .slice (some ⟨gb, 0, none⟩) n n, .int .i64 0, .bool false, .bool false] 54)) w2.heap.size gb gp n (.slice none 0 0) vs) :=
      ⟨[], rfl, HM.out.bl.alloc HM.out.bl.size _, (Below.heap_alloc _ _ _ (Array.getElem?_eq_some_iff.1 HM.out.b).1).trans HM.out.b, (Below.heap_alloc _ _ _ (Array.getElem?_eq_some_iff.1 HM.out.p).1).trans HM.out.p, heap_alloc_new w2 _, ⟨HM.out.bl.size, HM.out.lb, HM.out.lp⟩, Kd.R_nil _ _ _ _ _, fun s hs => by cases hs⟩
    clear hK hHeld HM
    clear K
    generalize (w2.alloc (.cells #[.slice none 0 0, .slice (some ⟨gp, 0, none⟩) n n, .slice (some ⟨gb, 0, none⟩) n n, .int .i64 0, .bool false, .bool false] 54)) = w3 at *
    generalize w2.heap.size = p at *
    clear w2
    go_wp2_with fail
    go_loopw [4] (fun v4 wr => ∃ j : Nat, v4 = .int .i64 (j : Int) ∧ j ≤ n ∧ Fact (∃ v0 vs, vs.length = j ∧ Part w wr p gb gp n v0 vs)) (fun v _ => n - (intOf v).toNat)
    case atStart => exact ⟨0, rfl, Nat.zero_le _, ⟨_, P0.out⟩⟩
    case round =>
      obtain ⟨j, rfl, hj, R1⟩ := hrel
      clear P0
      obtain ⟨v0, vs, hvl, hP⟩ := R1.out
      have HP := Fact.mk hP
      clear R1 hP
      by_cases hlt : j < n
      · have hlt2 : (j : Int) < (n : Int) := by omega
        go_wp2_with fail
        have HP2 : Fact (Part w wr.drew p gb gp n v0 vs) := ⟨HP.out.drew⟩
        clear HP
        obtain ⟨A4, c4, rfl⟩ := Kd.R_slice HP2.out.own
        have c0 : wr.drew.cell? ⟨p, 0, none⟩ = some (.slice A4 j c4) := by rw [cell_of_row _ _ _ _ _ _ HP2.out.self, ← hvl]; rfl
        skip
        refine start_ (n := 11) (S := fun w' => w'.cell? ⟨p, 0, none⟩ = some (.slice A4 j c4)) (ds := [10]) #[false, false, false, false, false, false, false, false, false, false, false] (by kernel_rfl) rfl rfl c0 (fun hHeld => ?_)
        clear c0
        generalize wr.drew = w2 at *
        have hmk := made64 w2
        have hbr := build_row (w2.alloc (.cells zc 5)) (some ⟨w2.heap.size, 0, none⟩) 64 64
        have SZ : Fact ((w2.alloc (.cells zc 5)).heap.size = w2.heap.size + 1) := ⟨by simp⟩
        have BA : Fact (Below w2.heap.size w2 (w2.alloc (.cells zc 5))) := ⟨(Below.refl _ _).alloc (Nat.le_refl _) _⟩
        have RW : Fact (Row (w2.alloc (.cells zc 5)) w2.heap.size zb) := ⟨by simp [zb], by rw [heap_alloc_new, zc_zb]⟩
        have LT := Fact.mk HP2.out.lts
        have OK : Fact (∀ k, (w2.alloc (.cells zc 5)).heap.size ≤ k → w.heap.size ≤ k ∧ k ≠ p ∧ k ≠ gb ∧ k ≠ gp) := ⟨fun k hk => by have := LT.out; have := SZ.out; have := HP2.out.bl.size; omega⟩
        have BW : Fact (Below w.heap.size w (w2.alloc (.cells zc 5))) := ⟨HP2.out.bl.alloc HP2.out.bl.size _⟩
        obtain ⟨v1, w1, hap, ho, hg⟩ := append_one 31 ⟨some ⟨w2.heap.size, 0, none⟩, 64, 64⟩ (Kd.R_below HP2.out.own BA.out) BW.out.size OK.out (by omega)
        have HB1 : Fact (Below w.heap.size w w1) := ⟨BW.out.grown hg BW.out.size (own_base (Kd.own_of_R HP2.out.own))⟩
        have HO := Fact.mk (HP2.out.step BA.out RW.out ho HB1.out hg)
        obtain ⟨cp, fp⟩ := HP2.out.at_ BA.out hg
        obtain ⟨A5, c5, rfl⟩ := Kd.R_slice ho
        have hst := store_rows w1 p _ A5 (vs ++ [(⟨some ⟨w2.heap.size, 0, none⟩, 64, 64⟩ : HV)]).length c5 cp fp
        have hS1 : (w2.alloc (.cells zc 5)).cell? ⟨p, 0, none⟩ = some (.slice A4 j c4) := by rw [World.cell?_of_block (w := w2) (BA.out.block p LT.out.1)]; exact hHeld
        have hS2 : ((w2.alloc (.cells zc 5)).alloc (.cells #[.slice (some ⟨w2.heap.size, 0, none⟩) 64 64] 22)).cell? ⟨p, 0, none⟩ = some (.slice A4 j c4) := by rw [World.cell?_of_block (w := w2.alloc (.cells zc 5)) (Below.heap_alloc _ _ _ (by rw [SZ.out]; exact Nat.lt_succ_of_lt LT.out.1))]; exact hS1
        rw [hvl] at cp hap
        clear ho hg
        refine pure_ (i := 0) (N := (some 16)) (v := ?_) (a' := ?_) #[true, false, false, false, false, false, false, false, false, false, false] rfl rfl (by kernel_rfl) (fun _ _ _ h => h) (Or.inl ⟨by rfl, ?_⟩) ?_ ?_
        rotate_left
        · intro w'
          go_simp
          with_reducible rfl
        rotate_left
        · simp only [Act.put, List.setIfInBounds_toArray, List.set_cons_zero, List.set_cons_succ, i64_w, i32_w]
          rfl
        refine pure_ (i := 1) (N := (some 17)) (v := ?_) (a' := ?_) #[true, true, false, false, false, false, false, false, false, false, false] rfl rfl (by kernel_rfl) (fun _ _ _ h => h) (Or.inl ⟨by rfl, ?_⟩) ?_ ?_
        rotate_left
        · intro w'
          go_simp
          with_reducible rfl
        rotate_left
        · simp only [Act.put, List.setIfInBounds_toArray, List.set_cons_zero, List.set_cons_succ, i64_w, i32_w]
          rfl
        refine pure_ (i := 2) (N := (some 18)) (v := ?_) (a' := ?_) #[true, true, true, false, false, false, false, false, false, false, false] rfl rfl (by kernel_rfl) (fun _ _ _ h => h) (Or.inl ⟨by rfl, ?_⟩) ?_ ?_
        rotate_left
        · intro w'
          go_simp
          with_reducible rfl
        rotate_left
        · simp only [Act.put, List.setIfInBounds_toArray, List.set_cons_zero, List.set_cons_succ, i64_w, i32_w]
          rfl
        refine pure_ (i := 3) (N := (some 19)) (v := ?_) (a' := ?_) #[true, true, true, true, false, false, false, false, false, false, false] rfl rfl (by kernel_rfl) (fun _ _ _ h => h) (Or.inl ⟨by rfl, ?_⟩) ?_ ?_
        rotate_left
        · intro w'
          go_simp
          with_reducible rfl
        rotate_left
        · simp only [Act.put, List.setIfInBounds_toArray, List.set_cons_zero, List.set_cons_succ, i64_w, i32_w]
          rfl
        refine take_ (i := 4) (N := (some 20)) (v := ?_) (a' := ?_) #[true, true, true, true, true, false, false, false, false, false, false] rfl rfl (by kernel_rfl) (fun _ _ _ h => h) (Or.inl ⟨by rfl, ?_⟩) hHeld ?_ ?_
        rotate_left
        · rintro w' s0
          go_simp
          with_reducible rfl
        rotate_left
        · simp only [Act.put, List.setIfInBounds_toArray, List.set_cons_zero, List.set_cons_succ, i64_w, i32_w]
          rfl
        refine one_ (i := 5) (N := (some 21)) #[true, true, true, true, true, true, false, false, false, false, false] rfl rfl (by kernel_rfl) (by decide) (fun K hK => ?_)
        refine value_ rfl rfl (exec_make (v1 := .int .i64 64) (v2 := .int .i64 64) rfl rfl rfl hmk) ?_
        refine hK.out _ _ hS1 (fun _ => ?_)
        refine norm_ (a' := ?_) ?_ ?_
        rotate_left
        · show Act.put _ (some 21) _ = _
          simp only [Act.put, List.setIfInBounds_toArray, List.set_cons_zero, List.set_cons_succ, i64_w, i32_w]
          rfl
        refine one_ (i := 6) (N := (some 22)) #[true, true, true, true, true, true, true, false, false, false, false] rfl rfl (by kernel_rfl) (by decide) (fun K hK => ?_)
        refine value_ rfl rfl (exec_build1 rfl rfl hbr) ?_
        refine hK.out _ _ hS2 (fun _ => ?_)
        refine norm_ (a' := ?_) ?_ ?_
        rotate_left
        · show Act.put _ (some 22) _ = _
          simp only [Act.put, List.setIfInBounds_toArray, List.set_cons_zero, List.set_cons_succ, i64_w, i32_w]
          rfl
        refine one_ (i := 7) (N := (some 23)) #[true, true, true, true, true, true, true, true, false, false, false] rfl rfl (by kernel_rfl) (by decide) (fun K hK => ?_)
        refine value_ rfl rfl (exec_append rfl rfl rfl hap) ?_
        refine hK.out _ _ cp (fun _ => ?_)
        refine norm_ (a' := ?_) ?_ ?_
        rotate_left
        · show Act.put _ (some 23) _ = _
          simp only [Act.put, List.setIfInBounds_toArray, List.set_cons_zero, List.set_cons_succ, i64_w, i32_w]
          rfl
        refine pure_ (i := 8) (N := (some 24)) (v := ?_) (a' := ?_) #[true, true, true, true, true, true, true, true, true, false, false] rfl rfl (by kernel_rfl) (fun _ _ _ h => h) (Or.inl ⟨by rfl, ?_⟩) ?_ ?_
        rotate_left
        · intro w'
          go_simp
          with_reducible rfl
        rotate_left
        · simp only [Act.put, List.setIfInBounds_toArray, List.set_cons_zero, List.set_cons_succ, i64_w, i32_w]
          rfl
        refine pure_ (i := 9) (N := (some 25)) (v := ?_) (a' := ?_) #[true, true, true, true, true, true, true, true, true, true, false] rfl rfl (by kernel_rfl) (fun _ _ _ h => h) (Or.inl ⟨by rfl, ?_⟩) ?_ ?_
        rotate_left
        · intro w'
          go_simp
          with_reducible rfl
        rotate_left
        · simp only [Act.put, List.setIfInBounds_toArray, List.set_cons_zero, List.set_cons_succ, i64_w, i32_w]
          rfl
        refine last_ (i := 10) (N := none) #[true, true, true, true, true, true, true, true, true, true, true] rfl rfl (by kernel_rfl) (by decide) (fun K hK => ?_)
        refine skip_ rfl rfl (exec_store2 rfl rfl rfl hst) ?_
        refine hK.out _ _ ?_
        refine done_ (by kernel_rfl) ?_
        have hl2 : (vs ++ [(⟨some ⟨w2.heap.size, 0, none⟩, 64, 64⟩ : HV)]).length = j + 1 := by rw [List.length_append, hvl]; rfl
        rw [hl2] at HO ⊢
        have HO2 : Fact (∃ v0 vs, vs.length = j + 1 ∧ Part w (w1.setCell ⟨p, 0, none⟩ (.slice A5 (j + 1) c5)) p gb gp n v0 vs) := ⟨_, _, hl2, HO.out⟩
        clear HO hl2
        go_wp2_with fail
        exact ⟨⟨j + 1, by go_num, by omega, HO2⟩, by simp [intOf]; omega⟩
      · have he : j = n := by omega
        subst he
        have hlt2 : ¬ ((j : Int) < (j : Int)) := by omega
        go_wp2_with fail
        go_ret
        obtain ⟨R, e, hR, hl⟩ := HP.out.done hvl h1 h2
        exact ⟨R, by rw [e]; rfl, hR, hl, HP.out.bl⟩
  · intro HJ
    refine two_ (i := 1) (j := 3) (Ni := some 6) (Nj := some 8) #[true, true, true, false, false, false, false] #[true, false, true, true, false, false, false] rfl rfl rfl rfl (by kernel_rfl) (by decide) (by decide) (fun K hK => ?_) (fun K hK => ?_)
    · refine value_ rfl rfl (exec_make (v1 := .int .i64 (n : Int)) (v2 := .int .i64 (n : Int)) rfl rfl rfl (hmb _)) ?_
      refine hK.out _ _ trivial (fun _ => ?_)
      refine one_ (i := 3) (N := some 8) #[true, true, true, true, false, false, false] rfl rfl (by kernel_rfl) (by decide) (fun K hK => ?_)
      refine value_ rfl rfl (exec_make (v1 := .int .i64 (n : Int)) (v2 := .int .i64 (n : Int)) rfl rfl rfl (hmr _)) ?_
      refine hK.out _ _ trivial (fun _ => ?_)
      refine HJ (w.drew.heap.size, (w.drew.alloc (.cells (madeCells #[.bool false] n) 4)).heap.size) _ ⟨?_, ?_, ?_, Nat.le_refl _, by simp⟩
      · exact (((Below.refl _ _).drew).alloc (Nat.le_refl _) _).alloc (by simp) _
      · exact (Below.heap_alloc _ _ _ (by simp)).trans (heap_alloc_new w.drew _)
      · exact heap_alloc_new (w.drew.alloc _) _
    · refine value_ rfl rfl (exec_make (v1 := .int .i64 (n : Int)) (v2 := .int .i64 (n : Int)) rfl rfl rfl (hmr _)) ?_
      refine hK.out _ _ trivial (fun _ => ?_)
      refine one_ (i := 1) (N := some 6) #[true, true, true, true, false, false, false] rfl rfl (by kernel_rfl) (by decide) (fun K hK => ?_)
      refine value_ rfl rfl (exec_make (v1 := .int .i64 (n : Int)) (v2 := .int .i64 (n : Int)) rfl rfl rfl (hmb _)) ?_
      refine hK.out _ _ trivial (fun _ => ?_)
      refine HJ ((w.drew.alloc (.cells (madeCells #[.slice none 0 0] n) 22)).heap.size, w.drew.heap.size) _ ⟨?_, ?_, ?_, by simp, Nat.le_refl _⟩
      · exact (((Below.refl _ _).drew).alloc (Nat.le_refl _) _).alloc (by simp) _
      · exact heap_alloc_new (w.drew.alloc _) _
      · exact (Below.heap_alloc _ _ _ (by simp)).trans (heap_alloc_new w.drew _)
end Go.Proofs.Ytldefibkaoboeaa.Dk
