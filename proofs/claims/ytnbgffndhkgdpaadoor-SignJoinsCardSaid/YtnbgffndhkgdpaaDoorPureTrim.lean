import Derived.Test.YtnbgffndhkgdpaaDoorPureBase
import Derived.Test.YtnbgffndhkgdpaaDoorPx1
import Derived.Test.YtnbgffndhkgdpaaDoorPx3
namespace Go.Proofs.YtnbgffndhkgdpaaDoor.Pure
open Go.RowKit Go.Proofs.YtnbgffndhkgdpaaDoor.P Go.Proofs.YtnbgffndhkgdpaaDoorW.PrintWords Go.Proofs.YtnbgffndhkgdpaaDoorW.PrintLast Go.Proofs.YtnbgffndhkgdpaaDoorW.PrintMore
set_option linter.unusedVariables false
set_option linter.unusedSimpArgs false

/-! ### without blanks at both ends -/
def blankB (c : UInt8) : Bool := c == 32 || c == 9
def trimL (l : List UInt8) : List UInt8 := l.dropWhile blankB
def trimR (l : List UInt8) : List UInt8 := (l.reverse.dropWhile blankB).reverse
def trimB (l : List UInt8) : List UInt8 := trimR (trimL l)
theorem blank_ref (c : UInt8) : pantryref01_blank.f (c.toNat : Int) = some (blankB c) := by
  have := all_bytes (p := fun n => pantryref01_blank.f (n : Int) = some (blankB (UInt8.ofNat n))) (by decide +kernel) c
  simpa using this
theorem contains_blank : (fun c : UInt8 => [32, 9].contains c) = blankB := by
  funext c; unfold blankB; simp [List.contains, List.elem]
  cases h : c == 32 <;> cases h2 : c == 9 <;> simp_all
theorem trimR_snoc (l : List UInt8) (c : UInt8) : trimR (l ++ [c]) = if blankB c then trimR l else l ++ [c] := by
  unfold trimR
  rw [List.reverse_append]
  simp only [List.reverse_cons, List.reverse_nil, List.nil_append, List.singleton_append, List.dropWhile_cons]
  split <;> simp
theorem trimR_nil : trimR [] = [] := rfl
theorem trimL_cons (c : UInt8) (l : List UInt8) : trimL (c :: l) = if blankB c then trimL l else c :: l := by
  unfold trimL; rw [List.dropWhile_cons]
theorem trimR_cons (c : UInt8) (l : List UInt8) : trimR (c :: l) = if trimR l = [] then (if blankB c then [] else [c]) else c :: trimR l := by
  induction l using snoc_ind with
  | nil => 
    have := trimR_snoc [] c
    simp only [List.nil_append, trimR_nil] at this
    rw [this]; simp [trimR_nil]
  | snoc l d ih =>
    rw [show c :: (l ++ [d]) = (c :: l) ++ [d] from rfl, trimR_snoc, trimR_snoc]
    by_cases hd : blankB d = true
    · rw [if_pos hd, if_pos hd, ih]
    · rw [if_neg hd, if_neg hd, if_neg (by simp)]; rfl
theorem trimL_eq_nil (l : List UInt8) : trimL l = [] ↔ l.all blankB = true := by
  induction l with
  | nil => simp [trimL]
  | cons c l ih => rw [trimL_cons]; by_cases h : blankB c = true <;> simp [h, ih]
theorem trimR_eq_nil (l : List UInt8) : trimR l = [] ↔ l.all blankB = true := by
  induction l with
  | nil => simp [trimR]
  | cons c l ih => rw [trimR_cons]; by_cases h : blankB c = true <;> by_cases h2 : trimR l = [] <;> simp_all
theorem trim_swap (l : List UInt8) : trimL (trimR l) = trimR (trimL l) := by
  induction l with
  | nil => rfl
  | cons c l ih =>
    rw [trimR_cons, trimL_cons]
    by_cases h2 : trimR l = []
    · rw [if_pos h2]
      have h3 := (trimR_eq_nil l).1 h2
      have h4 := (trimL_eq_nil l).2 h3
      by_cases h : blankB c = true
      · rw [if_pos h, if_pos h, h4]; rfl
      · rw [if_neg h, if_neg h, trimR_cons, if_pos h2, if_neg h, trimL_cons, if_neg h]
    · rw [if_neg h2]
      by_cases h : blankB c = true
      · rw [if_pos h, trimL_cons, if_pos h]; exact ih
      · rw [if_neg h, trimL_cons, if_neg h, trimR_cons, if_neg h2]
theorem trim_sign (s : ByteArray) (hs : s.size ≤ 4611686018427387904) : sign_Trim.f s = some ⟨(trimB s.data.toList).toArray⟩ := by
  unfold sign_Trim.f Lib.trimS Lib.trimLeftS Lib.trimRightS
  rw [if_pos (by omega), contains_blank]
  unfold trimB
  rw [← trim_swap]
  rfl
theorem trimB_length (l : List UInt8) : (trimB l).length ≤ l.length := by
  have a : ∀ l : List UInt8, (trimL l).length ≤ l.length := fun l => by
    induction l with
    | nil => simp [trimL]
    | cons c l ih => rw [trimL_cons]; split <;> simp; omega
  have b : ∀ l : List UInt8, (trimR l).length ≤ l.length := fun l => by
    induction l with
    | nil => simp [trimR]
    | cons c l ih => 
      rw [trimR_cons]
      by_cases h1 : trimR l = [] <;> by_cases h2 : blankB c = true <;> simp [h1, h2] <;> omega
  exact Nat.le_trans (b _) (a _)
/-- Nothing is left to trim. -/
theorem trimB_idem (l : List UInt8) : trimB (trimB l) = trimB l := by
  have a : ∀ l : List UInt8, trimL (trimL l) = trimL l := fun l => by
    induction l with
    | nil => rfl
    | cons c l ih =>
      rw [trimL_cons]
      by_cases h : blankB c = true
      · rw [if_pos h, ih]
      · rw [if_neg h, trimL_cons, if_neg h]
  have b : ∀ l : List UInt8, trimR (trimR l) = trimR l := fun l => by
    induction l with
    | nil => rfl
    | cons c l ih =>
      rw [trimR_cons]
      by_cases h2 : trimR l = []
      · rw [if_pos h2]
        by_cases h : blankB c = true
        · rw [if_pos h]; rfl
        · rw [if_neg h, trimR_cons, if_pos (by rfl), if_neg h]
      · rw [if_neg h2, trimR_cons, ih, if_neg h2]
  unfold trimB
  rw [trim_swap, b, a]

/-! ### the reference's loops -/
theorem trim_right (s : ByteArray) (hs : s.size ≤ 4611686018427387904) (p : Nat) (m : List UInt8) : ∀ (r : List UInt8), s.data.toList = s.data.toList.take p ++ m ++ r → (p + m.length : Nat) ≤ s.size → p ≤ s.size →
    Ev (fun k => pantryref01_Trim.l1 k s (p : Int) ((p + m.length : Nat) : Int)) ⟨(trimR m).toArray⟩ := by
  induction m using snoc_ind with
  | nil =>
    intro r hr h1 h2
    refine ev_one fun k => ?_
    simp only [pantryref01_Trim.l1, List.length_nil, Nat.add_zero]
    rw [if_neg (by omega), if_pos (by omega), if_pos (by omega), if_pos (by omega)]
    refine congrArg some (ba_ext ?_)
    rw [Lib.extract_data]; simp [trimR_nil]
  | snoc m c ih =>
    intro r hr h1 h2
    have hl : ((p + (m ++ [c]).length : Nat) : Int) = ((p + m.length : Nat) : Int) + 1 := by simp; omega
    have hw : wrap64 (((p + (m ++ [c]).length : Nat) : Int) - 1) = ((p + m.length : Nat) : Int) := by
      rw [hl]; simp at h1; rw [wrap_id (by omega) (by omega)]; omega
    have hp : (s.data.toList.take p).length = p := by rw [List.length_take, ← sz]; omega
    have hb : bt s ((p + m.length : Nat) : Int) = (c.toNat : Int) := by
      refine bt_of ?_
      rw [hr, Int.toNat_natCast, List.append_assoc, List.append_assoc, List.getElem?_append_right (by omega), hp, List.getElem?_append_right (by omega)]
      simp [show p + m.length - p - m.length = 0 by omega]
    simp at h1
    by_cases hc : blankB c = true
    · refine ev_to _ (ev_rw (ih (c :: r) (by simpa using hr) (by omega) h2) (by rw [trimR_snoc, if_pos hc])) fun k => ?_
      simp only [pantryref01_Trim.l1]
      rw [if_pos (by simp; omega), hw, if_pos (by omega), if_pos (by omega), hb, blank_ref, bind_some rfl, if_pos hc]
    · refine ev_one fun k => ?_
      simp only [pantryref01_Trim.l1]
      rw [if_pos (by simp; omega), hw, if_pos (by omega), if_pos (by omega), hb, blank_ref, bind_some rfl, if_neg hc, if_pos (by omega), if_pos (by omega), if_pos (by simp; omega), trimR_snoc, if_neg hc]
      refine congrArg some (ba_ext ?_)
      rw [Lib.extract_data, mk_data, Int.toNat_natCast, Int.toNat_natCast]
      rw [hr, List.append_assoc, List.drop_append_of_le_length (by omega)]
      rw [List.drop_of_length_le (by omega), List.nil_append, show p + (m ++ [c]).length - p = (m ++ [c]).length by omega, List.take_left]
theorem trim_left (s : ByteArray) (hs : s.size ≤ 4611686018427387904) (l : List UInt8) : ∀ i, Sfx s i l → Ev (fun k => pantryref01_Trim.l0 k s i (s.size : Int)) ⟨(trimR (trimL l)).toArray⟩ := by
  have fin : ∀ i l, Sfx s i l → Ev (fun k => pantryref01_Trim.j1 k s i (s.size : Int)) ⟨(trimR l).toArray⟩ := by
    intro i l h
    obtain ⟨p, rfl⟩ := Int.eq_ofNat_of_zero_le h.ge
    have hle := h.le
    have he : (s.size : Int) = ((p + l.length : Nat) : Int) := by omega
    have hq := h.eq
    rw [Int.toNat_natCast] at hq
    have := trim_right s hs p l [] (by rw [List.append_nil, ← hq, List.take_append_drop]) (by omega) (by omega)
    rw [he]
    exact ev_to _ this fun k => by simp only [pantryref01_Trim.j1]
  induction l with
  | nil =>
    intro i h
    refine ev_to _ (fin i [] h) fun k => ?_
    simp only [pantryref01_Trim.l0]; rw [if_neg h.stop]
  | cons c l ih =>
    intro i h
    by_cases hc : blankB c = true
    · refine ev_to _ (ev_rw (ih _ h.next) (by rw [trimL_cons, if_pos hc])) fun k => ?_
      simp only [pantryref01_Trim.l0]; rw [if_pos h.lt, if_pos h.ge, if_pos h.lt, h.bt, blank_ref, bind_some rfl, if_pos hc, h.wrap hs]
    · refine ev_to _ (ev_rw (fin _ _ h) (by rw [trimL_cons, if_neg hc])) fun k => ?_
      simp only [pantryref01_Trim.l0]; rw [if_pos h.lt, if_pos h.ge, if_pos h.lt, h.bt, blank_ref, bind_some rfl, if_neg hc]
theorem trim_ref (s : ByteArray) (hs : s.size ≤ 4611686018427387904) : Ev (fun k => pantryref01_Trim.f k s) ⟨(trimB s.data.toList).toArray⟩ :=
  trim_left s hs _ 0 (Sfx.start s)

end Go.Proofs.YtnbgffndhkgdpaaDoor.Pure
