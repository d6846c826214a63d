/-
What '(*Redo).right' does: are changes a job?
-/
import Derived.Test.YtjpbpeiknnloeaaRdW3
namespace Go.Proofs.Ytjpbpeiknnloeaa.Dk
open Go.RowKit Go.Maps Go.Proofs.YtjpbpeiknnloeaaW.PrintWords Go.Proofs.YtjpbpeiknnloeaaW.PrintLast Go.Proofs.YtjpbpeiknnloeaaW.PrintMore
set_option linter.unusedVariables false
set_option linter.unusedSimpArgs false

/-- The first j changes are right so far. -/
structure RightTo (n : Int) (l : List Ch) (j : Nat) : Prop where
  ok : ∀ c ∈ l.take j, 0 ≤ c.1 ∧ c.1 < n ∧ c.2.length ≤ 64
  nodup : ((l.take j).map (·.1)).Nodup
theorem RightTo.start (n : Int) (l : List Ch) : RightTo n l 0 := ⟨fun c h => by simp at h, by simp⟩
theorem RightTo.step {n : Int} {l : List Ch} {j : Nat} (h : RightTo n l j) {x : Ch} (hx : l[j]? = some x) (h0 : 0 ≤ x.1) (h1 : x.1 < n) (h2 : x.2.length ≤ 64) (h3 : ¬ x.1 ∈ (l.take j).map (·.1)) : RightTo n l (j + 1) := by
  have e : l.take (j + 1) = l.take j ++ [x] := by rw [List.take_add_one, hx]; rfl
  refine ⟨?_, ?_⟩
  · rw [e]; intro c hc
    rcases List.mem_append.1 hc with hc | hc
    · exact h.ok c hc
    · obtain rfl := List.mem_singleton.1 hc; exact ⟨h0, h1, h2⟩
  · rw [e, List.map_append]
    refine List.nodup_append.2 ⟨h.nodup, by simp, ?_⟩
    intro a ha b hb
    have hb : b = x.1 := by simpa using hb
    subst hb
    rintro rfl
    exact h3 ha
theorem RightTo.bad {n : Int} {l : List Ch} {x : Ch} {j : Nat} (hx : l[j]? = some x) (h : ¬ (0 ≤ x.1 ∧ x.1 < n) ∨ 64 < x.2.length ∨ x.1 ∈ (l.take j).map (·.1)) : rightOf n l = false := by
  unfold rightOf
  rw [decide_eq_false_iff_not]
  rintro ⟨h1, h2, h3⟩
  have hm : x ∈ l := List.mem_of_getElem? hx
  obtain ⟨a, b, c⟩ := h1 x hm
  rcases h with h | h | h
  · exact h ⟨a, b⟩
  · omega
  · have e : l = l.take j ++ x :: l.drop (j + 1) := by
      have hj := (List.getElem?_eq_some_iff.1 hx)
      obtain ⟨hj, e⟩ := hj
      rw [← e, ← List.drop_eq_getElem_cons hj, List.take_append_drop]
    rw [e, List.map_append] at h2
    exact (List.nodup_append.1 h2).2.2 x.1 h x.1 (by simp) rfl
theorem RightTo.done {n : Int} {l : List Ch} (h : RightTo n l l.length) : rightOf n l = decide (1 ≤ l.length ∧ l.length ≤ 96) := by
  unfold rightOf
  have h1 := h.ok
  have h2 := h.nodup
  rw [List.take_length] at h1 h2
  apply decide_eq_decide.2
  exact ⟨fun hh => hh.2.2, fun hh => ⟨h1, h2, hh⟩⟩
def seenOf (l : List Ch) (j : Nat) (i : Nat) : Option Value := if (i : Int) ∈ (l.take j).map (·.1) then some (.bool true) else none
theorem seenOf_step {l : List Ch} {j : Nat} {x : Ch} (hx : l[j]? = some x) {k : Nat} (hk : x.1 = (k : Int)) : (fun i => if i = k then some (Value.bool true) else seenOf l j i) = seenOf l (j + 1) := by
  have e : l.take (j + 1) = l.take j ++ [x] := by rw [List.take_add_one, hx]; rfl
  funext i
  unfold seenOf
  rw [e]
  by_cases h : i = k
  · subst h; rw [if_pos rfl, if_pos (by simp [hk])]
  · rw [if_neg h]
    by_cases h2 : (i : Int) ∈ (l.take j).map (·.1)
    · rw [if_pos h2, if_pos (by rw [List.map_append]; exact List.mem_append_left _ h2)]
    · rw [if_neg h2, if_neg (by rw [List.map_append]; intro h3; rcases List.mem_append.1 h3 with h3 | h3; exact h2 h3; simp [hk] at h3; omega)]
theorem gate_put {P : Program} {ops : Array Oper} {rest : List Oper} {o : Oper} {a : Act} {Q : Exit → Act → World → Prop} {W : World} (m x v : Operand) (t : TypeId) (_ho : o.op = .mapUpdate t m x v) (h : wpList P ops Q (o :: rest) a W) : wpList P ops Q (o :: rest) a W := h
section
variable {w : World} {L : DL} {D : PD} {q : Nat} {br : Bool} {S : Nat → Prop}
set_option maxHeartbeats 1000000 in
set_option maxRecDepth 100000 in
/-- '(*Redo).right'. -/
theorem right_any (hd : IsDisk w L D) (hr : IsRedo w q L br) (A : Option Addr) (c : Nat) (l : List Ch) (hl : Chs S w A l) :
    Calls Try.prog 25 #[.pointer (some ⟨q, 0, none⟩), .slice A l.length c] w fun e w' => e = .returned (.bool (rightOf ((D.n : Int) - 100) l)) ∧ Below w.heap.size w w' := by
  have HR := Fact.mk hr
  have HD := Fact.mk hd
  have HC := Fact.mk hl
  have hle := hl.le
  have hn := hd.good.most
  have HQ := Fact.mk (hr.apart hd)
  have hmm := @run_makeMap Try.prog
  have I0 : Fact (RightTo ((D.n : Int) - 100) l 0 ∧ IntMap Try.prog (w.alloc (.map #[] 0)) w.heap.size (seenOf l 0) D.n) := ⟨RightTo.start _ _, by
    have := IntMap.made Try.prog w D.n
    have e : seenOf l 0 = fun _ => none := by funext i; simp [seenOf]
    rw [e]; exact this⟩
  clear hd hr hl
  go_enter Try.func25, Try.ntmps25
  go_wp2_with fail
  clear hmm
  go_loopw [11] (fun v11 wr => ∃ j : Nat, v11 = .int .i64 (j : Int) ∧ j ≤ l.length ∧ Fact (RightTo ((D.n : Int) - 100) l j ∧ IntMap Try.prog wr w.heap.size (seenOf l j) D.n) ∧ Fact (Below w.heap.size w wr)) (fun v _ => l.length - (intOf v).toNat)
  case atStart => exact ⟨0, rfl, Nat.zero_le _, I0, ⟨(Below.refl _ _).alloc (Nat.le_refl _) _⟩⟩
  case round =>
    obtain ⟨j, rfl, hj, R1, R2⟩ := hrel
    clear I0
    by_cases hlt : j < l.length
    · have hlt2 : (j : Int) < (l.length : Int) := by omega
      have hx : l[j]? = some l[j] := List.getElem?_eq_getElem hlt
      have HX := Fact.mk hx
      obtain ⟨ad, As, cs, hA, hs, hc⟩ := HC.out.at_ hx
      subst hA
      obtain ⟨c0, c1⟩ := hc wr (Only.of_below R2.out S)
      have hbase : w.heap.size ≤ wr.heap.size := R2.out.size
      clear hs hc hx
      generalize l[j] = x at *
      have HT : Fact (∀ o, Calls Try.prog 32 #[.pointer (some ⟨q, 0, none⟩), .int .i64 x.1] (wr.alloc o) fun e w' => e = .returned (.bool (decide (0 ≤ x.1 ∧ x.1 < (D.n : Int) - 100))) ∧ wr.alloc o = w') := ⟨fun o => Rthere_any ((HD.out.below R2.out).alloc o) ((HR.out.only (Only.of_below R2.out L.S) HQ.out).only (Only.alloc L.S _ _) HQ.out) x.1⟩
      by_cases h1 : 0 ≤ x.1 ∧ x.1 < (D.n : Int) - 100
      · rw [decide_eq_true h1] at HT
        by_cases h2 : x.2.length ≤ 64
        · have h2i : ((x.2.length : Int)) ≤ 64 := by omega
          obtain ⟨k, hk⟩ := Int.eq_ofNat_of_zero_le h1.1
          have hkn : k < D.n := by omega
          by_cases h3 : x.1 ∈ (l.take j).map (·.1)
          · have hlk : ∀ o, (Instr.lookup 55 (.map (some w.heap.size)) (.int .i64 x.1) false).run Try.prog (wr.alloc o) = .ok (.bool true) (wr.alloc o) := fun o => by
              rw [hk, ((R1.out.2).move (Below.heap_alloc _ _ _ (R1.out.2).lt)).look int_t Try.underlying55 (zero_bool _) k (by omega)]
              rw [seenOf, if_pos (hk ▸ h3)]; rfl
            have HZ := Fact.mk (RightTo.bad (n := (D.n : Int) - 100) HX.out (.inr (.inr h3)))
            clear h3 h1 hk HX
            go_wp2_with (go_at_call 32; refine (HT.out _).mono ?_; rintro e w' ⟨rfl, rfl⟩)
            go_ret
            rw [HZ.out]
            exact ⟨rfl, R2.out.alloc hbase _⟩
          · have hlk : ∀ o, (Instr.lookup 55 (.map (some w.heap.size)) (.int .i64 x.1) false).run Try.prog (wr.alloc o) = .ok (.bool false) (wr.alloc o) := fun o => by
              rw [hk, ((R1.out.2).move (Below.heap_alloc _ _ _ (R1.out.2).lt)).look int_t Try.underlying55 (zero_bool _) k (by omega)]
              rw [seenOf, if_neg (hk ▸ h3)]; rfl
            have HZ := Fact.mk (R1.out.1.step HX.out h1.1 h1.2 h2 h3)
            have HK : Fact (Value.int .i64 x.1 = Value.int .i64 (k : Int)) := ⟨by rw [hk]⟩
            have HKx := Fact.mk hk
            have HMo : Fact (∀ o, IntMap Try.prog (wr.alloc o) w.heap.size (seenOf l j) D.n) := ⟨fun o => (R1.out.2).move (Below.heap_alloc _ _ _ (R1.out.2).lt)⟩
            clear h3 h1 hk
            go_wp2_with (first | (go_at_call 32; refine (HT.out _).mono ?_; rintro e w' ⟨rfl, rfl⟩) | ((with_reducible refine gate_put (.tmp 32) (.tmp 34) (.const (.bool true)) 55 rfl ?_); refine wpList_put_map rfl (.tmp 32) (.tmp 34) (.const (.bool true)) 55 4 rfl int_t Try.underlying55 w.heap.size D.n _ (HMo.out _) (by omega) rfl k HK.out hkn (.bool true) rfl ?_; intro w3 hm3 ht3; have HM := Fact.mk hm3; have HT3 := Fact.mk ht3; clear hm3 ht3))
            refine ⟨⟨j + 1, by go_num, by omega, ⟨HZ.out, by rw [← seenOf_step HX.out HKx.out]; exact HM.out⟩, ⟨?_⟩⟩, by simp [intOf]; omega⟩
            exact (R2.out.alloc hbase _).trans ((Only.mapTurned (S := fun k => k = w.heap.size) HT3.out rfl).below (by simp; omega) (fun k hk => by omega))
        · have h2i : (64 : Int) < (x.2.length : Int) := by omega
          have HZ := Fact.mk (RightTo.bad (n := (D.n : Int) - 100) HX.out (.inr (.inl (by omega))))
          clear h1 HX
          go_wp2_with (go_at_call 32; refine (HT.out _).mono ?_; rintro e w' ⟨rfl, rfl⟩)
          go_ret
          rw [HZ.out]
          exact ⟨rfl, R2.out.alloc hbase _⟩
      · rw [decide_eq_false h1] at HT
        have HZ := Fact.mk (RightTo.bad (n := (D.n : Int) - 100) HX.out (.inl h1))
        clear h1 HX
        go_wp2_with (go_at_call 32; refine (HT.out _).mono ?_; rintro e w' ⟨rfl, rfl⟩)
        go_ret
        rw [HZ.out]
        exact ⟨rfl, R2.out.alloc hbase _⟩
    · have he : j = l.length := by omega
      subst he
      have hlt2 : ¬ ((l.length : Int) < (l.length : Int)) := by omega
      have HZ := Fact.mk (R1.out.1.done)
      clear R1
      go_wp2_with fail
      all_goals
        go_ret
        rw [HZ.out]
        refine ⟨ret_bool (Bool.eq_iff_iff.2 ?_), R2.out⟩
        first | (simp; done) | (simp; omega) | omega
end
end Go.Proofs.Ytjpbpeiknnloeaa.Dk
