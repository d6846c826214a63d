/-
Words for the law SlotsAtomic: puts on an armed disk, arrays of three strings.
-/
import Derived.Test.YtdkijmikafmgaaaXLSlotsHold
import Derived.DataShut
import Derived.ChangeKeysEq
namespace Go.Proofs.Ytdkijmikafmgaaa.Dk
open Go.RowKit Go.Maps Go.Proofs.YtdkijmikafmgaaaW.PrintWords Go.Proofs.YtdkijmikafmgaaaW.PrintLast Go.Proofs.YtdkijmikafmgaaaW.PrintMore
set_option linter.unusedVariables false
set_option linter.unusedSimpArgs false

theorem wf_top {n : Int} (h : (Lit.int .i64 n).wf = true) : n < 9223372036854775808 := by
  have h1 : n ≤ 9223372036854775807 := ((Lit.wf_int_iff .i64 n).1 h).2
  omega
/-- Behind puts each slot's record, of the job's sectors. -/
theorem slots_wrote {n m : Nat} {f : Sect} {l : List Ch} (hj : Job n (allOf l)) (hn : n = 100 + 64 * m) (hok : putsOk (m : Int) l = true) {i : Nat} {r : List Int} (hs : SlotIs f i r) : SlotIs (wrote (ats (allOf l)) f) i (recAt i r l) := by
  have hmm2 : (((n : Int) - 100) / 64) = (m : Int) := by omega
  refine slots_done hj (by rw [hmm2]; exact hok) ?_
  rcases recAt_cases i l r with ⟨p, hp, a, b⟩ | ⟨a, b⟩
  · exact .inl ⟨p, hp, a, b⟩
  · exact .inr ⟨a, by rw [b]; exact hs⟩
/-- Puts on a disk at rest that may be armed. -/
theorem sdo_armed {n m : Nat} {f : Sect} {D : PD} (h : Rests n f D) (hn : n = 100 + 64 * m) (h1 : 1 ≤ m) (h2 : m ≤ 60) (b : List Ch) : (∃ e, D.sdo false b = (e, D, false) ∧ (e = 10 ∨ e = 23)) ∨ ∃ e D2, D.sdo false b = (e, D2, decide (e ≠ 0)) ∧ Job n (allOf b) ∧ putsOk (m : Int) b = true ∧ Inv n (allOf b) f D2 ∧ (e = 0 → Rests n (wrote (ats (allOf b)) f) D2) ∧ (e = 0 ∨ e = 40) := by
  have hmm : (((D.n : Int) - 100) / 64) = (m : Int) := by rw [h.size]; omega
  have hmm2 : (((n : Int) - 100) / 64) = (m : Int) := by omega
  by_cases hok : putsOk (m : Int) b = false
  · exact .inl ⟨10, by unfold PD.sdo; rw [hmm, if_pos hok], .inl rfl⟩
  · have hok2 : putsOk (m : Int) b = true := by simpa using hok
    by_cases hl : b = []
    · exact .inl ⟨10, by unfold PD.sdo; rw [hmm, if_neg hok, if_pos hl], .inl rfl⟩
    · by_cases hbig : 96 < (allOf b).length
      · exact .inl ⟨23, by unfold PD.sdo; rw [hmm, if_neg hok, if_neg hl, if_pos hbig], .inr rfl⟩
      · have hj : Job n (allOf b) := all_job (by omega) (by omega) (by rw [hmm2]; exact hok2) hl (by omega)
        have he := doJob_ends hj h
        have hd : D.do_ false (allOf b) = ((D.doJob (allOf b)).1, (D.doJob (allOf b)).2, decide ((D.doJob (allOf b)).1 ≠ 0)) := by
          unfold PD.do_
          rw [if_neg (by decide), if_neg (by rw [h.size, hj.right]; decide)]
        refine .inr ⟨_, _, ?_, hj, hok2, he.inv, he.done, he.ans⟩
        unfold PD.sdo
        rw [hmm, if_neg hok, if_neg hl, if_neg hbig, hd]
/-- What may stand behind a crash, and what opening brings. -/
theorem sl_last {n : Nat} {l : List Ch} {f : Sect} {e : Int} {D : PD} (hj : Job n l) (h : Inv n l f D) (hd : e = 0 → Rests n (wrote (ats l) f) D) (keep : List Bool) : ∃ D' g, (D.crash keep).open_ = (0, D') ∧ D'.down = false ∧ Rests n g D' ∧ (g = f ∨ g = wrote (ats l) f) ∧ (e = 0 → g = wrote (ats l) f) := by
  have hs := crash_settled D keep
  have hu := PD.Up.crash D keep
  have ho := open_opens hj hs hu.down (h.crash keep)
  obtain ⟨h1, h2⟩ := ho.up hu
  by_cases he : e = 0
  · have hr := Rests.of ((hd he).mays.crash keep) hs
    exact ⟨_, _, open_rests hr (by have := hj.least; omega) hu.down, hu.down, hr, .inr rfl, fun _ => rfl⟩
  · rcases ho.done h1 with hr | hr
    · exact ⟨_, _, Prod.ext h1 rfl, h2.down, hr, .inl rfl, fun h => absurd h he⟩
    · exact ⟨_, _, Prod.ext h1 rfl, h2.down, hr, .inr rfl, fun _ => rfl⟩
/-- An array of three strings. -/
def Arr (w : World) (g : Nat) (v : Nat → ByteArray) : Prop := ∃ ty, w.heap[g]? = some (.cells #[.string (v 0), .string (v 1), .string (v 2)] ty (0, 0))
def upd (v : Nat → ByteArray) (k : Nat) (s : ByteArray) : Nat → ByteArray := fun i => if i = k then s else v i
section
variable {w w' : World} {g : Nat} {v : Nat → ByteArray}
theorem Arr.lt (h : Arr w g v) : g < w.heap.size := by obtain ⟨ty, h⟩ := h; exact (Array.getElem?_eq_some_iff.1 h).1
theorem Arr.only {S : Nat → Prop} (h : Arr w g v) (ho : Only S w w') (hs : ¬ S g) : Arr w' g v := by
  have hl := h.lt
  obtain ⟨ty, h⟩ := h
  exact ⟨ty, (ho.block g hl hs).trans h⟩
theorem Arr.below (h : Arr w g v) (hb : Below w.heap.size w w') : Arr w' g v := h.only (Only.of_below hb (fun _ => False)) (fun h => h)
theorem Arr.cell (h : Arr w g v) {k : Nat} (hk : k < 3) : w.cell? ⟨g, k, none⟩ = some (.string (v k)) := by
  obtain ⟨ty, h⟩ := h
  rw [cell_of_row _ _ _ _ _ _ h]
  rcases k with _ | _ | _ | k
  · rfl
  · rfl
  · rfl
  · omega
theorem Arr.set (h : Arr w g v) {k : Nat} (hk : k < 3) (s : ByteArray) : Arr (w.setCell ⟨g, k, none⟩ (.string s)) g (upd v k s) := by
  have hl := h.lt
  obtain ⟨ty, h⟩ := h
  refine ⟨ty, ?_⟩
  rcases k with _ | _ | _ | k
  · simp [World.setCell, Array.getElem?_modify, h, upd]
  · simp [World.setCell, Array.getElem?_modify, h, upd]
  · simp [World.setCell, Array.getElem?_modify, h, upd]
  · omega
theorem Arr.f (h : Arr w g v) (k : Nat) : w.frozen? ⟨g, k, none⟩ = false := by
  obtain ⟨ty, h⟩ := h
  exact frozen_of_row w g k _ _ h
theorem Arr.congr (h : Arr w g v) {v2 : Nat → ByteArray} (e : ∀ k, k < 3 → v k = v2 k) : Arr w g v2 := by
  obtain ⟨ty, h⟩ := h
  exact ⟨ty, by rw [← e 0 (by decide), ← e 1 (by decide), ← e 2 (by decide)]; exact h⟩
end
/-- The first i strings are told. -/
def fill (recs : Nat → List Int) (i : Nat) : Nat → ByteArray := fun k => if k < i then strOfNums (recs k) else { data := #[] }
theorem fill_step (recs : Nat → List Int) (i : Nat) : upd (fill recs i) i (strOfNums (recs i)) = fill recs (i + 1) := by
  funext k
  unfold upd fill
  by_cases h : k = i
  · rw [if_pos h, if_pos (by omega), h]
  · rw [if_neg h]
    by_cases h2 : k < i
    · rw [if_pos h2, if_pos (by omega)]
    · rw [if_neg h2, if_neg (by omega)]
/-- What 'Get' tells, as a string. -/
theorem Get_str {w w' : World} {b : List Int} {e : Ending} (h : GetTo w b e w') : ∃ v x, e = .returned (.tuple #[v, .int .i64 x]) ∧ ∀ (S : Nat → Prop) (W : World), (∀ k, S k → k < w.heap.size) → Only S w' W → (convert 37 9 v).run Try.prog W = .ok (.string (strOfNums b)) W := by
  obtain ⟨⟨rfl, rfl⟩ | ⟨hcons, g, c, out, rfl, hown, htk, hle⟩, -⟩ := h
  · exact ⟨_, _, rfl, fun S W hS ho => Kd.C_string (xs := []) Try.underlying37 Try.underlying5 Try.underlying9 (Kd.C_nil _ _)⟩
  · refine ⟨_, _, rfl, fun S W hS ho => ?_⟩
    have h1 := C_take (own_reads_ (own_only hown ho (fun k hk hs => by have := hS k hs; omega))).2.2 hle
    rw [htk] at h1
    exact Kd.C_string Try.underlying37 Try.underlying5 Try.underlying9 h1
/-- Two arrays of three strings, compared. -/
theorem equal_arr (W : World) (a b : Nat → ByteArray) : ∃ r : Bool, (Op.equalIn 10000 45 (.agg #[.string (a 0), .string (a 1), .string (a 2)]) (.agg #[.string (b 0), .string (b 1), .string (b 2)])).run Try.prog W = .ok r W ∧ (r = true ↔ a 0 = b 0 ∧ a 1 = b 1 ∧ a 2 = b 2) := by
  have hi : Try.prog.info? 9 = some (Try.prog.info? 9).get! := by kernel_rfl
  have hc : Try.prog.cellsOf 9 = 1 := by kernel_rfl
  have p0 : ∀ c : Nat → ByteArray, (part 9 #[.string (c 0), .string (c 1), .string (c 2)] 0).run Try.prog W = .ok (.string (c 0)) W := fun c => by kernel_rfl
  have p1 : ∀ c : Nat → ByteArray, (part 9 #[.string (c 0), .string (c 1), .string (c 2)] 1).run Try.prog W = .ok (.string (c 1)) W := fun c => by kernel_rfl
  have p2 : ∀ c : Nat → ByteArray, (part 9 #[.string (c 0), .string (c 1), .string (c 2)] 2).run Try.prog W = .ok (.string (c 2)) W := fun c => by kernel_rfl
  have hs : ∀ x y : ByteArray, (Op.equalIn 9999 9 (.string x) (.string y)).run Try.prog W = .ok (x.toList == y.toList) W := fun x y => run_equalIn_string W 9998 9 x y Try.underlying9
  have ht : ∀ x y : ByteArray, (x.toList == y.toList) = true ↔ x = y := fun x y => by simp [ByteArray.toList_eq, ByteArray.ext_iff]
  rw [show (10000 : Nat) = 9999 + 1 from rfl, run_equalIn_array W 9999 _ _ Try.underlying45 hi, hc, show List.range 3 = [0, 1, 2] from rfl]
  refine ⟨((a 0).toList == (b 0).toList) && (((a 1).toList == (b 1).toList) && ((a 2).toList == (b 2).toList)), ?_, by rw [Bool.and_eq_true, Bool.and_eq_true, ht, ht, ht]⟩
  simp only [Op.eqItems, Sem.run_bind, Nat.zero_mul, Nat.mul_one, p0, hs, Result.andThen_ok]
  generalize ((a 0).toList == (b 0).toList) = x0
  cases x0
  · simp
  · simp only [Bool.not_true, Bool.false_eq_true, if_false, Sem.run_bind, p1, hs, Result.andThen_ok, Bool.true_and]
    generalize ((a 1).toList == (b 1).toList) = x1
    cases x1
    · simp
    · simp only [Bool.not_true, Bool.false_eq_true, if_false, Sem.run_bind, p2, hs, Result.andThen_ok, Bool.true_and]
      generalize ((a 2).toList == (b 2).toList) = x2
      cases x2 <;> simp
end Go.Proofs.Ytdkijmikafmgaaa.Dk
