/-
Words and steps of the laws on a journal.
-/
import Derived.Test.YtjpbpeiknnloeaaRdAnchor
import Derived.DataShut
namespace Go.Proofs.Ytjpbpeiknnloeaa.Dk
open Go.RowKit Go.Maps Go.Proofs.YtjpbpeiknnloeaaW.PrintWords Go.Proofs.YtjpbpeiknnloeaaW.PrintLast Go.Proofs.YtjpbpeiknnloeaaW.PrintMore
set_option linter.unusedVariables false
set_option linter.unusedSimpArgs false

/-- The law's first part: a job on a new disk. -/
theorem do_new (a : List Ch) : (PD.new 120).do_ false a = (10, PD.new 120, false) ∧ rightOf 20 a = false ∨ ∃ D1 f1, (PD.new 120).do_ false a = (0, D1, false) ∧ Job 120 a ∧ Rests 120 f1 D1 ∧ D1.Up ∧ f1 = wrote (ats a) (fun _ => nought) := by
  have hn : (((PD.new 120).n : Int) - 100) = 20 := rfl
  by_cases h : rightOf 20 a = false
  · left
    refine ⟨?_, h⟩
    unfold PD.do_
    rw [if_neg (by decide), hn, if_pos h]
  · right
    have hj : Job 120 a := Job.of_right (by decide) (by decide) (by simpa using h)
    have r0 : Rests 120 (fun _ => nought) (PD.new 120) := Rests.new (by decide) (by decide)
    have he := doJob_ends hj r0
    obtain ⟨h1, h2⟩ := he.up (PD.Up.new 120)
    exact ⟨_, _, An.do_of rfl hj h1 (by decide), hj, he.done h1, h2, rfl⟩
/-- A second job on an armed disk. -/
theorem do_armed {D : PD} {f : Sect} (h : Rests 120 f D) (b : List Ch) : D.do_ false b = (10, D, false) ∨ ∃ e D2, D.do_ false b = (e, D2, decide (e ≠ 0)) ∧ Job 120 b ∧ Inv 120 b f D2 ∧ (e = 0 → Rests 120 (wrote (ats b) f) D2) ∧ (e = 0 ∨ e = 40) := by
  have hn : ((D.n : Int) - 100) = 20 := by rw [h.size]; rfl
  by_cases hr : rightOf 20 b = false
  · left
    unfold PD.do_
    rw [if_neg (by decide), hn, if_pos hr]
  · right
    have hj : Job 120 b := Job.of_right (by decide) (by decide) (by simpa using hr)
    have he := doJob_ends hj h
    exact ⟨_, _, An.do_of h.size hj rfl rfl, hj, he.inv, he.done, he.ans⟩
/-- What stands while it is opened again and again. -/
structure Again (b : List Ch) (f : Sect) (e : Int) (D : PD) : Prop where
  inv : Inv 120 b f D
  done : e = 0 → D.Mays 120 (MA (wrote (ats b) f))
theorem Again.crash {b : List Ch} {f : Sect} {e : Int} {D : PD} (h : Again b f e D) (keep : List Bool) : Again b f e (D.crash keep) := ⟨h.inv.crash keep, fun he => (h.done he).crash keep⟩
theorem Again.arm {b : List Ch} {f : Sect} {e : Int} {D : PD} (h : Again b f e D) {k : Int} (hk : k < 9223372036854775808) : Again b f e (D.arm k) := ⟨h.inv.arm hk, fun he => (h.done he).arm hk⟩
theorem Again.open_ {b : List Ch} {f : Sect} {e : Int} {D : PD} (hj : Job 120 b) (h : Again b f e D) (hs : D.Settled) (hd : D.down = false) : Again b f e D.open_.2 :=
  ⟨(open_opens hj hs hd h.inv).inv, fun he => by rw [open_rests (Rests.of (h.done he) hs) (by decide) hd]; exact h.done he⟩
theorem Again.last {b : List Ch} {f : Sect} {e : Int} {D : PD} (hj : Job 120 b) (h : Again b f e D) (hs : D.Settled) (hu : D.Up) : ∃ D' g, D.open_ = (0, D') ∧ D'.down = false ∧ Rests 120 g D' ∧ (g = f ∨ g = wrote (ats b) f) ∧ (e = 0 → g = wrote (ats b) f) := by
  have ho := open_opens hj hs hu.down h.inv
  obtain ⟨h1, h2⟩ := ho.up hu
  by_cases he : e = 0
  · have hr := Rests.of (h.done he) hs
    exact ⟨D, _, open_rests hr (by decide) hu.down, hu.down, hr, .inr rfl, fun _ => rfl⟩
  · rcases ho.done h1 with hr | hr
    · exact ⟨_, _, Prod.ext h1 rfl, h2.down, hr, .inl rfl, fun h => absurd h he⟩
    · exact ⟨_, _, Prod.ext h1 rfl, h2.down, hr, .inr rfl, fun _ => rfl⟩
abbrev datas (f : Sect) : List Int := bytesTo (fun i => f (100 + i)) 20
theorem datas_done {b : List Ch} (hj : Job 120 b) {f : Sect} {D : PD} (h : Rests 120 f D) : doneOf (datas f) b = datas (wrote (ats b) f) := by
  have e1 : datas f = bytesTo (fun i => (fun j => D.st j) (100 + i)) 20 := bytesTo_congr fun i _ => (h.data _ (by omega)).symm
  have e2 : datas (wrote (ats b) f) = bytesTo (fun i => wrote (ats b) (fun j => D.st j) (100 + i)) 20 := bytesTo_congr fun i _ => wrote_congr (h.data _ (by omega)).symm
  rw [e1, e2]
  exact bytes_done (fun c hc => ⟨(hj.fit c hc).1, by have := (hj.fit c hc).2.1; omega⟩) (fun i => h.good.full i)
theorem datas_length {f : Sect} {D : PD} (h : Rests 120 f D) : (datas f).length = 1280 := bytesTo_length (j := 20) fun i _ => by rw [← h.data _ (by omega)]; exact h.good.full _
theorem seen_string {S : Nat → Prop} {W : World} {A : Option Addr} {n c : Nat} {l : List Int} (h : Sees S W ⟨A, n, c⟩ l) : (convert 27 9 (.slice A n c)).run Try.prog W = .ok (.string (strOfNums l)) W := by
  have h1 := h.reads W (Only.refl _ _)
  have hn : n = l.length := h.n
  subst hn
  exact Kd.C_string Try.underlying27 Try.underlying5 Try.underlying9 h1
theorem str_eq {a b : List Int} (h : strOfNums a = strOfNums b) : ((strOfNums a).toList == (strOfNums b).toList) = true := by rw [h]; simp
theorem wf_top {n : Int} (h : (Lit.int .i64 n).wf = true) : n < 9223372036854775808 := by
  have h1 : n ≤ 9223372036854775807 := ((Lit.wf_int_iff .i64 n).1 h).2
  omega
section
variable {w : World}
/-- 'whole' of a disk at rest. -/
theorem whole_rests {w0 : World} {L : DL} {D : PD} {q : Nat} {f : Sect} (h : Jr w0 w L D q false) (hr : Rests 120 f D) (hd : D.down = false) :
    Calls Try.prog 13 #[.pointer (some ⟨q, 0, none⟩)] w fun en w' => ∃ A c, en = .returned (.slice A 1280 c) ∧ (∀ S : Nat → Prop, (∀ k, S k → k < w.heap.size) → Sees S w' ⟨A, 1280, c⟩ (datas f)) ∧ Jr w0 w' L D q false ∧ Below w.heap.size w w' :=
  whole_law h (fun i => f (100 + i)) 20 (by rw [hr.size]; rfl) (fun i hi => hr.rread hd rfl hi)
end
end Go.Proofs.Ytjpbpeiknnloeaa.Dk
