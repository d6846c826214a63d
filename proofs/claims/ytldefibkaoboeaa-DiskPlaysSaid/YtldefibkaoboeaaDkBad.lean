/-
What '(*Disk).Bad' does.
-/
import Derived.Test.YtldefibkaoboeaaDkLaw
namespace Go.Proofs.Ytldefibkaoboeaa.Dk
open Go.RowKit Go.Maps Go.Proofs.YtldefibkaoboeaaW.PrintWords Go.Proofs.YtldefibkaoboeaaW.PrintLast Go.Proofs.YtldefibkaoboeaaW.PrintMore
set_option linter.unusedVariables false
set_option linter.unusedSimpArgs false

theorem IsDisk.setBad {w w' : World} {L : DL} {D : PD} (h : IsDisk w L D) (f : Nat → Option Bool) (h4 : ∀ i, D.bad i = (f i).getD false) {i : Nat} (hi : i < D.n) (on : Bool) (hm : IntMap Try.prog w' L.bb (fun j => if j = i then some (.bool on) else (f j).map Value.bool) D.n) (ht : w.mapTurned w' L.bb) :
    IsDisk w' L { D with bad := fun j => if j = i then on else D.bad j } := by
  obtain ⟨n1, n2, n3, n4⟩ := h.ne_maps
  obtain ⟨cs, h1, h2⟩ := h.stands
  have g := ht.grown
  have hs : ∀ k, k < w.heap.size → k ≠ L.bb → w'.heap[k]? = w.heap[k]? := fun k hk hn => g.block k hk (fun e => hn (Option.some.inj e))
  refine ⟨⟨h.good.one, h.good.most, h.good.lo, h.good.hi, h.good.full, h.good.fullp⟩, (hs _ (h.lt _ L.S_p) n2).trans h.self, ⟨cs, (hs _ (h.lt _ L.S_bs) n4).trans h1, h2⟩, h.pend.move (hs _ (h.lt _ L.S_bp) h.ne2), ⟨fun j => if j = i then some on else f j, ?_, ?_⟩, h.ne1, h.ne2⟩
  · have e : (fun j => if j = i then some (Value.bool on) else (f j).map Value.bool) = fun j => (if j = i then some on else f j).map Value.bool := by
      funext j
      split <;> rfl
    rw [← e]; exact hm
  · intro j
    show (if j = i then on else D.bad j) = (if j = i then some on else f j).getD false
    by_cases e : j = i
    · rw [if_pos e, if_pos e]; rfl
    · rw [if_neg e, if_neg e]; exact h4 j
theorem Bad_any {w : World} {L : DL} {D : PD} (h : IsDisk w L D) (i : Int) (on : Bool) :
    Calls Try.prog 18 #[.pointer (some ⟨L.p, 0, none⟩), .int .i64 i, .bool on] w (DoesTo w L (D.setBad i on)) := by
  have c2 := h.c2
  have HT := Fact.mk (there_any h i)
  have H := Fact.mk h
  have hn4 : D.n ≤ 4096 := h.good.most
  obtain ⟨f, h3, h4⟩ := h.bads
  have H3 := Fact.mk h3
  have H4 := Fact.mk h4
  unfold PD.setBad
  cases ht : D.there i with
  | false =>
    rw [if_neg Bool.false_ne_true]
    rw [ht] at HT
    clear h ht h3 h4
    go_enter Try.func18, Try.ntmps18
    go_wp2_with (go_at_call 28; refine HT.out.mono ?_; rintro e w' ⟨rfl, rfl⟩)
    go_ret
    exact ⟨rfl, H.out, Only.refl _ _⟩
  | true =>
    rw [if_pos rfl]
    rw [ht] at HT
    have hi := (PD.there_iff D i).1 ht
    obtain ⟨k, rfl⟩ := Int.eq_ofNat_of_zero_le hi.1
    rw [Int.toNat_natCast]
    have hk : k < D.n := by omega
    clear h ht h3 h4 hi
    go_enter Try.func18, Try.ntmps18
    go_wp2_with (first | (go_at_call 28; refine HT.out.mono ?_; rintro e w' ⟨rfl, rfl⟩) | (refine wpList_put_map rfl (.tmp 14) (.tmp 15) (.tmp 16) 60 4 rfl int_t Try.underlying60 L.bb D.n _ H3.out (by omega) rfl k rfl hk (.bool on) rfl ?_; intro w3 hm3 ht3; have HM := Fact.mk hm3; have HT3 := Fact.mk ht3; clear hm3 ht3))
    go_ret
    exact ⟨rfl, H.out.setBad f H4.out hk on HM.out HT3.out, Only.mapTurned HT3.out L.S_bb⟩
section
variable {w : World} {L : DL} {D : PD}
theorem Bad_to (h : IsDisk w L D) (i : Int) (on : Bool) {r : Int} {D' : PD} (hr : D.setBad i on = (r, D')) :
    Calls Try.prog 18 #[.pointer (some ⟨L.p, 0, none⟩), .int .i64 i, .bool on] w fun e w' => e = .returned (.int .i64 r) ∧ IsDisk w' L D' ∧ Only L.S w w' := by
  refine (Bad_any h i on).mono ?_
  rintro e w' ⟨rfl, h1, h2⟩
  rw [hr] at h1 ⊢
  exact ⟨rfl, h1, h2⟩
end
end Go.Proofs.Ytldefibkaoboeaa.Dk
