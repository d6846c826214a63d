/-
A law's steps on a disk and its journal, each as one contract.
-/
import Derived.Test.YtjpbpeiknnloeaaRdW14
import Derived.Test.YtjpbpeiknnloeaaRdPure3
namespace Go.Proofs.Ytjpbpeiknnloeaa.Dk
open Go.RowKit Go.Maps Go.Proofs.YtjpbpeiknnloeaaW.PrintWords Go.Proofs.YtjpbpeiknnloeaaW.PrintLast Go.Proofs.YtjpbpeiknnloeaaW.PrintMore
set_option linter.unusedVariables false
set_option linter.unusedSimpArgs false

/-- A disk of the law's own. -/
structure At (w0 w : World) (L : DL) (D : PD) : Prop where
  disk : IsDisk w L D
  new : ∀ k, L.S k → w0.heap.size ≤ k
  below : Below w0.heap.size w0 w
/-- A disk of the law's own, and its journal. -/
structure Jr (w0 w : World) (L : DL) (D : PD) (q : Nat) (br : Bool) : Prop where
  disk : IsDisk w L D
  redo : IsRedo w q L br
  new : ∀ k, RS L q k → w0.heap.size ≤ k
  below : Below w0.heap.size w0 w
section
variable {w0 w w' : World} {L : DL} {D D' : PD} {q : Nat} {br br' : Bool} {e : Int}
theorem At.only {S : Nat → Prop} (h : At w0 w L D) (ho : Only S w w') (hs : ∀ k, S k → w0.heap.size ≤ k) (hd : ∀ k, L.S k → ¬ S k) : At w0 w' L D := ⟨h.disk.only ho hd, h.new, next_below h.below ho hs⟩
theorem At.step (h : At w0 w L D) (hb : Below w.heap.size w w') : At w0 w' L D := ⟨h.disk.below hb, h.new, next_new h.below hb⟩
theorem Jr.step (h : Jr w0 w L D q br) (hb : Below w.heap.size w w') : Jr w0 w' L D q br := ⟨h.disk.below hb, h.redo.only (Only.of_below hb L.S) (h.redo.apart h.disk), h.new, next_new h.below hb⟩
theorem Jr.at_ (h : Jr w0 w L D q br) : At w0 w L D := ⟨h.disk, fun k hk => h.new k (.inl hk), h.below⟩
theorem Jr.lt (h : Jr w0 w L D q br) : ∀ k, RS L q k → k < w.heap.size := fun k hk => by
  rcases hk with hk | rfl
  · exact h.disk.lt k hk
  · exact h.redo.lt
theorem Jr.args {S : Nat → Prop} {A : Option Addr} {l : List Ch} (h : Jr w0 w L D q br) (hl : Chs (RS L q) w0 A l) : Chs (RS L q) w A l := hl.step (Only.of_below h.below _)
/-- What an argument reads. -/
theorem args_of {S : Nat → Prop} {A : Option Addr} {l : List Ch} (hl : Kd.C inK w0 A l.length l) (hs : ∀ k, S k → w0.heap.size ≤ k) : Chs S w0 A l := Chs.of_read hl hs
theorem New_law (w0 : World) (hb : Below w0.heap.size w0 w) {n : Nat} (h1 : 1 ≤ n) (h2 : n ≤ 4096) :
    Calls Try.prog 10 #[.int .i64 (n : Int)] w fun en w' => ∃ L : DL, en = .returned (.pointer (some ⟨L.p, 0, none⟩)) ∧ At w0 w' L (PD.new n) := by
  refine (New_good h1 h2).mono ?_
  rintro en w1 ⟨L, rfl, a, b, c⟩
  exact ⟨L, rfl, a, fun k hk => Nat.le_trans hb.size (b k hk), next_new hb c⟩
theorem Open_first (h : At w0 w L D) (h100 : 100 < D.n) (hlow : D.Low) (hr : D.open_ = (0, D')) :
    Calls Try.prog 11 #[.pointer (some ⟨L.p, 0, none⟩)] w fun en w' => ∃ q, en = .returned (.tuple #[.pointer (some ⟨q, 0, none⟩), .int .i64 0]) ∧ Jr w0 w' L D' q false := by
  refine (Open_any h.disk h100 hlow).mono ?_
  rintro en w1 ⟨hc, h2, o2⟩
  rw [hr] at hc h2
  obtain ⟨-, q, rfl, hq, hqs⟩ := hc.resolve_right (fun h => h.1 rfl)
  exact ⟨q, rfl, h2, hq, fun k hk => by
    rcases hk with hk | rfl
    · exact h.new k hk
    · exact Nat.le_trans h.below.size hqs, next_below h.below o2 h.new⟩
theorem Open_law (h : Jr w0 w L D q br) (h100 : 100 < D.n) (hlow : D.Low) (hr : D.open_ = (0, D')) :
    Calls Try.prog 11 #[.pointer (some ⟨L.p, 0, none⟩)] w fun en w' => ∃ q', en = .returned (.tuple #[.pointer (some ⟨q', 0, none⟩), .int .i64 0]) ∧ Jr w0 w' L D' q br ∧ Jr w0 w' L D' q' false ∧ Only (RS L q) w w' := by
  refine (Open_any h.disk h100 hlow).mono ?_
  rintro en w1 ⟨hc, h2, o2⟩
  rw [hr] at hc h2
  obtain ⟨-, q', rfl, hq, hqs⟩ := hc.resolve_right (fun h => h.1 rfl)
  have hb := next_below h.below o2 h.at_.new
  exact ⟨q', rfl, ⟨h2, h.redo.only o2 (h.redo.apart h.disk), h.new, hb⟩, ⟨h2, hq, fun k hk => by
    rcases hk with hk | rfl
    · exact h.new k (.inl hk)
    · exact Nat.le_trans h.below.size hqs, hb⟩, o2.mono fun k hk => .inl hk⟩
/-- Whatever it answers. -/
theorem Open_some (h : Jr w0 w L D q br) (h100 : 100 < D.n) (hlow : D.Low) :
    Calls Try.prog 11 #[.pointer (some ⟨L.p, 0, none⟩)] w fun en w' => ∃ v, en = .returned v ∧ Jr w0 w' L D.open_.2 q br ∧ Only (RS L q) w w' := by
  refine (Open_any h.disk h100 hlow).mono ?_
  rintro en w1 ⟨hc, h2, o2⟩
  have hb := next_below h.below o2 h.at_.new
  have hj : Jr w0 w1 L D.open_.2 q br := ⟨h2, h.redo.only o2 (h.redo.apart h.disk), h.new, hb⟩
  rcases hc with ⟨_, q', rfl, _⟩ | ⟨_, rfl⟩
  · exact ⟨_, rfl, hj, o2.mono fun k hk => .inl hk⟩
  · exact ⟨_, rfl, hj, o2.mono fun k hk => .inl hk⟩
theorem Do_law (h : Jr w0 w L D q br) (A : Option Addr) (c : Nat) {l : List Ch} (hl : Chs (RS L q) w A l) (hr : D.do_ br l = (e, D', br')) :
    Calls Try.prog 12 #[.pointer (some ⟨q, 0, none⟩), .slice A l.length c] w fun en w' => en = .returned (.int .i64 e) ∧ Jr w0 w' L D' q br' ∧ Only (RS L q) w w' := by
  refine (Do_any h.disk h.redo A c l hl (fun _ h => h) h.lt).mono ?_
  rintro en w1 ⟨rfl, h1, q1, o1⟩
  rw [hr] at h1 q1 ⊢
  exact ⟨rfl, ⟨h1, q1, h.new, next_below h.below o1 h.new⟩, o1⟩
theorem whole_law (h : Jr w0 w L D q br) (f : Nat → List Int) (m : Nat) (hm : (D.n : Int) - 100 = m) (hf : ∀ i, i < m → D.rread br (i : Int) = (f i, 0) ∧ (f i).length = 64) :
    Calls Try.prog 13 #[.pointer (some ⟨q, 0, none⟩)] w fun en w' => ∃ A c, en = .returned (.slice A (64 * m) c) ∧ (∀ S : Nat → Prop, (∀ k, S k → k < w.heap.size) → Sees S w' ⟨A, 64 * m, c⟩ (bytesTo f m)) ∧ Jr w0 w' L D q br ∧ Below w.heap.size w w' := by
  refine (whole_any h.disk h.redo f m hm hf).mono ?_
  rintro en w1 ⟨v, rfl, hv, hb⟩
  obtain ⟨A, c, rfl, -, -⟩ := Kd.R_reads hv
  have hl := bytesTo_length fun i hi => (hf i hi).2
  rw [hl] at hv ⊢
  exact ⟨A, c, rfl, fun S hS => Sees.of_own hv (fun k hk hs => by have := hS k hs; omega), h.step hb, hb⟩
theorem Arm_law (h : Jr w0 w L D q br) (k : Int) (hk : k < 9223372036854775808) :
    Calls Try.prog 14 #[.pointer (some ⟨L.p, 0, none⟩), .int .i64 k] w fun en w' => en = .returned (.tuple #[]) ∧ Jr w0 w' L (D.arm k) q br ∧ Only (RS L q) w w' := by
  refine (Arm_any h.disk k hk).mono ?_
  rintro en w1 ⟨rfl, h1, o1⟩
  exact ⟨rfl, ⟨h1, h.redo.only o1 (h.redo.apart h.disk), h.new, next_below h.below o1 h.at_.new⟩, o1.mono fun k hk => .inl hk⟩
theorem Crash_law (h : Jr w0 w L D q br) (A : Option Addr) (c : Nat) (keep : List Bool) (hr : ∀ W, Only L.S w W → ReadBool W A keep.length keep) :
    Calls Try.prog 15 #[.pointer (some ⟨L.p, 0, none⟩), .slice A keep.length c] w fun en w' => en = .returned (.tuple #[]) ∧ Jr w0 w' L (D.crash keep) q br ∧ Only (RS L q) w w' := by
  refine (Crash_any h.disk A c keep hr).mono ?_
  rintro en w1 ⟨rfl, h1, o1⟩
  exact ⟨rfl, ⟨h1, h.redo.only o1 (h.redo.apart h.disk), h.new, next_below h.below o1 h.at_.new⟩, o1.mono fun k hk => .inl hk⟩
end
end Go.Proofs.Ytjpbpeiknnloeaa.Dk
