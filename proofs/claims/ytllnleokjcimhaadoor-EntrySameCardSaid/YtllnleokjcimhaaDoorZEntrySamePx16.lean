import Derived.Test.YtllnleokjcimhaaDoorZEntrySamePx0
import Derived.Test.YtllnleokjcimhaaDoorZEntrySamePx5
import Derived.Test.YtllnleokjcimhaaDoorZEntrySamePx15
namespace Go.Proofs.YtllnleokjcimhaaDoor.P
open Go.RowKit Go.Proofs.YtllnleokjcimhaaDoorW.PrintWords Go.Proofs.YtllnleokjcimhaaDoorW.PrintLast Go.Proofs.YtllnleokjcimhaaDoorW.PrintMore
attribute [local go_sem] max2_int min2_int max_two min_two max_three min_three max_four min_four u8_div16 u8_mod16
set_option linter.unusedVariables false
set_option linter.unusedSimpArgs false
/-- While a record's rest is written: the row so far, and the entry's own block. -/
structure RS (w W : World) (vs : Array Value) (v : Value) (b : List Int) : Prop where
 own : Kd.R (Kd.int .u8) 5 W w.heap.size (fun k => w.heap.size < k) v b
 bl : Below w.heap.size w W
 at_ : W.heap[w.heap.size]? = some (.cells vs 32 (0, 0))
section
variable {w W W2 : World} {vs : Array Value} {v v2 : Value} {b b2 : List Int}
theorem RS.lt (h : RS w W vs v b) : w.heap.size < W.heap.size := (Array.getElem?_eq_some_iff.1 h.at_).1
theorem RS.cell (h : RS w W vs v b) (i : Nat) (u : Value) (hu : vs[i]? = some u) : W.cell? ⟨w.heap.size, i, none⟩ = some u := by rw [blk_cell h.at_ i]; exact hu
theorem RS.new (h : RS w W vs v b) (hb : Below W.heap.size W W2) : RS w W2 vs v b := ⟨Kd.R_below h.own hb, below_then h.bl h.bl.size hb, (hb.block _ h.lt).trans h.at_⟩
theorem RS.grown (h : RS w W vs v b) (ho : Kd.R (Kd.int .u8) 5 W2 w.heap.size (fun k => w.heap.size < k) v2 b2) (hb : Below w.heap.size w W2) (hg : W.grownBy W2 v.ownBlock) : RS w W2 vs v2 b2 :=
 ⟨ho, hb, (hg.block _ h.lt (fun e => by have := h.own.1 _ e.symm; omega)).trans h.at_⟩
theorem RS.text {k : Nat} {s : ByteArray} {r : List Int} (h : RS w W vs v b) (hf : pantryref14_text.f k b s = some r) :
  Calls Tryd.prog 52 #[v, .string s] W fun e W' => ∃ A c, e = .returned (.slice A r.length c) ∧ RS w W' vs (.slice A r.length c) r := by
 refine (pantryref14_text.calls k _ v b s r w W h.bl h.own hf).mono ?_
 rintro e W' ⟨v', rfl, ho, hb, hk⟩
 obtain ⟨A, c, rfl⟩ := Kd.R_slice ho
 exact ⟨A, c, rfl, Kd.R_mono ho (fun k hk => hk.elim id (fun hk => Nat.lt_of_lt_of_le h.lt hk)), hb, (hk.2 _ h.lt (by omega)).trans h.at_⟩
end
end Go.Proofs.YtllnleokjcimhaaDoor.P
