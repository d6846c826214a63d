/-
  The plain law: what the functions of 'pantry' that this statement reaches compute, as lists and numbers, answers as the statement says.
-/
import Derived.Test.YtodfjcmjoogcgaaDoorWWords
import Derived.Test.YtodfjcmjoogcgaaDoorWLast
import Derived.Test.YtodfjcmjoogcgaaDoorWMore
import Derived.Lib.SlTrimSet
import Derived.Lib.Strings
import Derived.Test.YtodfjcmjoogcgaaDoorZBodyFramesHelp
import Derived.Test.YtodfjcmjoogcgaaDoorZBodyFramesPx7
import Derived.Test.YtodfjcmjoogcgaaDoorZBodyFramesPx9
import Derived.Test.YtodfjcmjoogcgaaDoorZBodyFramesPx8
import Derived.Test.YtodfjcmjoogcgaaDoorZBodyFramesPx10
import Derived.Test.YtodfjcmjoogcgaaDoorZBodyFramesPx11
import Derived.Test.YtodfjcmjoogcgaaDoorZBodyFramesPx12
import Derived.Test.YtodfjcmjoogcgaaDoorZBodyFramesPx14
namespace Go.Proofs.YtodfjcmjoogcgaaDoor.Pure
open Go.RowKit Go.Proofs.YtodfjcmjoogcgaaDoorW.PrintWords Go.Proofs.YtodfjcmjoogcgaaDoorW.PrintLast Go.Proofs.YtodfjcmjoogcgaaDoorW.PrintMore
set_option linter.unusedVariables false
set_option linter.unusedSimpArgs false
/-! ### numbers -/
theorem wrap_id {x : Int} (h1 : -9223372036854775808 ≤ x) (h2 : x ≤ 9223372036854775807) : wrap64 x = x := by unfold wrap64; omega
theorem all_bytes {p : Nat → Prop} (h : ∀ n, n < 256 → p n) (c : UInt8) : p c.toNat := h _ c.toNat_lt
/-! ### bytes as lists -/
theorem ba_ext {s t : ByteArray} (h : s.data.toList = t.data.toList) : s = t := by
  cases s; cases t; simp only [ByteArray.mk.injEq]; exact Array.toList_inj.1 h
theorem tl (s : ByteArray) : s.toList = s.data.toList := Lib.toList_data s
theorem sz (s : ByteArray) : s.size = s.data.toList.length := Lib.size_eq s
theorem mk_data (l : List UInt8) : (⟨l.toArray⟩ : ByteArray).data.toList = l := rfl
theorem mk_size (l : List UInt8) : (⟨l.toArray⟩ : ByteArray).size = l.length := by rw [sz]
theorem ne_nilB (l : List UInt8) : (l != []) = !l.isEmpty := by cases l <;> rfl
theorem size_pos (s : ByteArray) : decide ((s.size : Int) > 0) = !s.data.toList.isEmpty := by
  rw [sz]; generalize s.data.toList = l; cases l <;> simp
theorem data_app (s t : ByteArray) : (s ++ t).data.toList = s.data.toList ++ t.data.toList := by
  simp [ByteArray.data_append]
theorem snoc_ind {α : Type} {p : List α → Prop} (nil : p []) (snoc : ∀ l a, p l → p (l ++ [a])) (l : List α) : p l := by
  rw [← List.reverse_reverse l]
  induction l.reverse with
  | nil => exact nil
  | cons a l ih => rw [List.reverse_cons]; exact snoc _ _ ih
/-- What stands in s from i on. -/
structure Sfx (s : ByteArray) (i : Int) (l : List UInt8) : Prop where
  ge : 0 ≤ i
  le : i + l.length = s.size
  eq : s.data.toList.drop i.toNat = l
theorem Sfx.start (s : ByteArray) : Sfx s 0 s.data.toList := ⟨by omega, by rw [sz]; omega, rfl⟩
theorem Sfx.stop {s : ByteArray} {i : Int} (h : Sfx s i []) : ¬ i < (s.size : Int) := by have := h.le; simp at this; omega
theorem Sfx.last {s : ByteArray} {i : Int} (h : Sfx s i []) : i = (s.size : Int) := by have := h.le; simp at this; omega
theorem Sfx.lt {s : ByteArray} {i : Int} {c : UInt8} {l : List UInt8} (h : Sfx s i (c :: l)) : i < (s.size : Int) := by have := h.le; simp at this; omega
theorem Sfx.at_ {s : ByteArray} {i : Int} {c : UInt8} {l : List UInt8} (h : Sfx s i (c :: l)) : s.data.toList[i.toNat]? = some c := by
  have := congrArg (·[0]?) h.eq
  simpa [List.getElem?_drop] using this
theorem bt_of {s : ByteArray} {i : Int} {c : UInt8} (h : s.data.toList[i.toNat]? = some c) : bt s i = (c.toNat : Int) := by
  have hl : i.toNat < s.size := by rw [sz]; exact (List.getElem?_eq_some_iff.1 h).1
  unfold bt
  rw [dif_pos hl]
  have h2 := (List.getElem?_eq_some_iff.1 h).2
  have : s[i.toNat]'hl = c := by rw [← h2]; rfl
  rw [this]
theorem Sfx.bt {s : ByteArray} {i : Int} {c : UInt8} {l : List UInt8} (h : Sfx s i (c :: l)) : bt s i = (c.toNat : Int) := bt_of h.at_
theorem Sfx.next {s : ByteArray} {i : Int} {c : UInt8} {l : List UInt8} (h : Sfx s i (c :: l)) : Sfx s (i + 1) l := by
  have h0 := h.ge
  refine ⟨by omega, by have := h.le; simp at this; omega, ?_⟩
  have := congrArg List.tail h.eq
  rw [List.tail_drop, List.tail_cons] at this
  rw [show (i + 1).toNat = i.toNat + 1 from by omega]; exact this
theorem Sfx.wrap {s : ByteArray} {i : Int} {c : UInt8} {l : List UInt8} (h : Sfx s i (c :: l)) (hs : s.size ≤ 4611686018427387904) : wrap64 (i + 1) = i + 1 :=
  wrap_id (by have := h.ge; omega) (by have := h.lt; omega)
theorem Sfx.tail {s : ByteArray} {i : Int} {l : List UInt8} (h : Sfx s i l) : (s.extract i.toNat s.size).data.toList = l := by
  rw [Lib.extract_data, h.eq, List.take_of_length_le]
  have := h.le; have := h.ge; omega
theorem Sfx.drop {s : ByteArray} {i : Int} {l m : List UInt8} (h : Sfx s i (l ++ m)) : Sfx s (i + l.length) m := by
  have h0 := h.ge; have h1 := h.le
  simp at h1
  refine ⟨by omega, by omega, ?_⟩
  rw [show (i + (l.length : Int)).toNat = i.toNat + l.length from by omega, ← List.drop_drop, h.eq, List.drop_left]
/-! ### rounds -/
theorem ev_mk {α : Type} {g : Nat → Option α} {r : α} (K : Nat) (h : ∀ k, g (k + K) = some r) : Ev g r :=
  ⟨K, fun k hk => by obtain ⟨m, rfl⟩ : ∃ m, k = m + K := ⟨k - K, by omega⟩; exact h m⟩
theorem ev_now {α : Type} {g : Nat → Option α} {r : α} (h : ∀ k, g k = some r) : Ev g r := ⟨0, fun k _ => h k⟩
theorem ev_one {α : Type} {g : Nat → Option α} {r : α} (h : ∀ k, g (k + 1) = some r) : Ev g r := ev_mk 1 h
theorem ev_to {α : Type} {g : Nat → Option α} {r : α} (f : Nat → Option α) (k : Ev f r) (h : ∀ k, g (k + 1) = f k) : Ev g r := Ev.step h k
theorem ev_eq {α : Type} {g : Nat → Option α} {r : α} (f : Nat → Option α) (k : Ev f r) (h : ∀ k, g k = f k) : Ev g r := Ev.congr h k
theorem ev_bind {α β : Type} {g : Nat → Option α} {f : Nat → α → Option β} {a : α} {r : β} (h : Ev g a) (k : Ev (fun n => f n a) r) : Ev (fun n => (g n).bind (f n)) r := Ev.bind h k
theorem ev_rw {α : Type} {g : Nat → Option α} {r r' : α} (h : Ev g r) (e : r = r') : Ev g r' := e ▸ h
theorem bind_some {α β : Type} {a : α} {x : Option α} {f : α → Option β} (h : x = some a) : x.bind f = f a := by rw [h]; rfl
end Go.Proofs.YtodfjcmjoogcgaaDoor.Pure
namespace Go.Proofs.YtodfjcmjoogcgaaDoor.Pure
open Go.RowKit Go.Proofs.YtodfjcmjoogcgaaDoor.P Go.Proofs.YtodfjcmjoogcgaaDoorW.PrintWords Go.Proofs.YtodfjcmjoogcgaaDoorW.PrintLast Go.Proofs.YtodfjcmjoogcgaaDoorW.PrintMore
set_option linter.unusedVariables false
set_option linter.unusedSimpArgs false
/-! ### bytes as whole numbers -/
def il (l : List UInt8) : List Int := l.map fun b => (b.toNat : Int)
theorem il_app (l m : List UInt8) : il (l ++ m) = il l ++ il m := List.map_append
theorem il_one (c : UInt8) : il [c] = [(c.toNat : Int)] := rfl
theorem il_length (l : List UInt8) : (il l).length = l.length := List.length_map _
theorem strOf_il (l : List UInt8) : strOfNums (il l) = ⟨l.toArray⟩ := by
  refine ba_ext ?_
  rw [strOfNums_data, il, List.map_map, mk_data]
  conv => rhs; rw [← List.map_id l]
  apply List.map_congr_left; intro a _; simp
/-! ### small letters -/
theorem lowB_toNat (c : UInt8) : ((lowB c).toNat : Int) = if 65 ≤ (c.toNat : Int) ∧ (c.toNat : Int) ≤ 90 then ((c.toNat : Int) + 32) % 256 else (c.toNat : Int) := by
  have := all_bytes (p := fun n => ((lowB (UInt8.ofNat n)).toNat : Int) = if 65 ≤ (n : Int) ∧ (n : Int) ≤ 90 then ((n : Int) + 32) % 256 else (n : Int)) (by decide +kernel) c
  simpa using this
def lowS (l : List UInt8) : List UInt8 := l.map lowB
theorem lower_sign (s : ByteArray) (hs : s.size ≤ 4611686018427387904) : sign_Lower.f s = some ⟨(lowS s.data.toList).toArray⟩ := by
  unfold sign_Lower.f; rw [if_pos (by omega)]; rfl
theorem lower_ref_loop (s : ByteArray) (hs : s.size ≤ 140737488351232) (l : List UInt8) : ∀ i m, Sfx s i l → m.length + l.length = s.size → Ev (fun k => pantryref01_Lower.l0 k s (il m) i) ⟨(m ++ lowS l).toArray⟩ := by
  induction l with
  | nil =>
    intro i m h hm
    refine ev_one fun k => ?_
    simp only [pantryref01_Lower.l0]; rw [if_neg h.stop, strOf_il]; simp [lowS]
  | cons c l ih =>
    intro i m h hm
    simp at hm
    have hI := ih (i + 1) (m ++ [lowB c]) h.next (by simp; omega)
    refine ev_to _ (ev_rw hI (by simp [lowS])) fun k => ?_
    have hc := lowB_toNat c
    simp only [pantryref01_Lower.l0]; rw [if_pos h.lt, if_pos h.ge, h.bt, h.wrap (by omega), il_app, il_one, hc]
    by_cases h1 : (c.toNat : Int) ≥ 65
    · rw [if_pos h1]
      by_cases h2 : (c.toNat : Int) ≤ 90
      · rw [if_pos h2, if_pos (by rw [il_length]; omega), if_pos ⟨h1, h2⟩]
      · rw [if_neg h2, if_pos (by rw [il_length]; omega), if_neg (fun x => h2 x.2)]
    · rw [if_neg h1, if_pos (by rw [il_length]; omega), if_neg (fun x => h1 x.1)]
theorem lower_ref (s : ByteArray) (hs : s.size ≤ 140737488351232) : Ev (fun k => pantryref01_Lower.f k s) ⟨(lowS s.data.toList).toArray⟩ :=
  lower_ref_loop s hs _ 0 [] (Sfx.start s) (by rw [sz]; simp)
end Go.Proofs.YtodfjcmjoogcgaaDoor.Pure
namespace Go.Proofs.YtodfjcmjoogcgaaDoor.Pure
open Go.RowKit Go.Proofs.YtodfjcmjoogcgaaDoor.P Go.Proofs.YtodfjcmjoogcgaaDoorW.PrintWords Go.Proofs.YtodfjcmjoogcgaaDoorW.PrintLast Go.Proofs.YtodfjcmjoogcgaaDoorW.PrintMore
set_option linter.unusedVariables false
set_option linter.unusedSimpArgs false
/-- Two texts that are the same but for letters. -/
def lowEq (a b : ByteArray) : Bool := lowS a.data.toList == lowS b.data.toList
theorem same_sign (a b : ByteArray) (ha : a.size ≤ 4611686018427387904) (hb : b.size ≤ 4611686018427387904) : sign_Same.f a b = some (lowEq a b) := by
  unfold sign_Same.f
  rw [bind_some (lower_sign a ha), bind_some (lower_sign b hb), tl, tl]
  rfl
theorem anyO_some {α : Type} (p : α → Option Bool) (q : α → Bool) : ∀ l : List α, (∀ x ∈ l, p x = some (q x)) → anyO p l = some (l.any q)
  | [], _ => rfl
  | x :: l, h => by
    rw [anyO, bind_some (h x (by simp)), List.any_cons]
    cases q x with
    | true => rfl
    | false => rw [if_neg (by decide), Bool.false_or]; exact anyO_some p q l (fun y hy => h y (by simp [hy]))
/-- Fields that can be gone through with. -/
def FOk (l : List S59) : Prop := l.length ≤ 1000 ∧ ∀ x ∈ l, x.f0.size ≤ 100000 ∧ x.f1.size ≤ 100000
theorem named_some (a0 a1 : ByteArray) (l : List ByteArray) (ha : a0.size ≤ 4611686018427387904) (hl : ∀ x ∈ l, x.size ≤ 4611686018427387904) : field_Field_named.f a0 a1 l = some (l.any fun n => lowEq n a0) :=
  anyO_some _ _ l (fun x hx => same_sign x a0 (hl x hx) ha)
theorem rd_fld (l : List S59) (i : Nat) (h : i < l.length) : rd_T59 l (i : Int) = l[i] := by
  simp [rd_T59, List.getD, h]
theorem rd_str (l : List ByteArray) (i : Nat) (h : i < l.length) : rdOf ByteArray.empty l (i : Int) = l[i] := by
  simp [rdOf, List.getD, h]
theorem wrap_nat (i : Nat) (h : i < 4611686018427387904) : wrap64 ((i : Int) + 1) = ((i + 1 : Nat) : Int) := by
  rw [wrap_id (by omega) (by omega)]; omega
end Go.Proofs.YtodfjcmjoogcgaaDoor.Pure
namespace Go.Proofs.YtodfjcmjoogcgaaDoor.Pure
open Go.RowKit Go.Proofs.YtodfjcmjoogcgaaDoor.P Go.Proofs.YtodfjcmjoogcgaaDoorW.PrintWords Go.Proofs.YtodfjcmjoogcgaaDoorW.PrintLast Go.Proofs.YtodfjcmjoogcgaaDoorW.PrintMore
set_option linter.unusedVariables false
set_option linter.unusedSimpArgs false
/-! ### without blanks at both ends -/
def blankB (c : UInt8) : Bool := c == 32 || c == 9
def trimL (l : List UInt8) : List UInt8 := l.dropWhile blankB
def trimR (l : List UInt8) : List UInt8 := (l.reverse.dropWhile blankB).reverse
def trimB (l : List UInt8) : List UInt8 := trimR (trimL l)
theorem blank_ref (c : UInt8) : pantryref01_blank.f (c.toNat : Int) = some (blankB c) := by
  have := all_bytes (p := fun n => pantryref01_blank.f (n : Int) = some (blankB (UInt8.ofNat n))) (by decide +kernel) c
  simpa using this
theorem contains_blank : (fun c : UInt8 => [32, 9].contains c) = blankB := by
  funext c; unfold blankB; simp [List.contains, List.elem]
  cases h : c == 32 <;> cases h2 : c == 9 <;> simp_all
theorem trimR_snoc (l : List UInt8) (c : UInt8) : trimR (l ++ [c]) = if blankB c then trimR l else l ++ [c] := by
  unfold trimR
  rw [List.reverse_append]
  simp only [List.reverse_cons, List.reverse_nil, List.nil_append, List.singleton_append, List.dropWhile_cons]
  split <;> simp
theorem trimR_nil : trimR [] = [] := rfl
theorem trimL_cons (c : UInt8) (l : List UInt8) : trimL (c :: l) = if blankB c then trimL l else c :: l := by
  unfold trimL; rw [List.dropWhile_cons]
theorem trimR_cons (c : UInt8) (l : List UInt8) : trimR (c :: l) = if trimR l = [] then (if blankB c then [] else [c]) else c :: trimR l := by
  induction l using snoc_ind with
  | nil => 
    have := trimR_snoc [] c
    simp only [List.nil_append, trimR_nil] at this
    rw [this]; simp [trimR_nil]
  | snoc l d ih =>
    rw [show c :: (l ++ [d]) = (c :: l) ++ [d] from rfl, trimR_snoc, trimR_snoc]
    by_cases hd : blankB d = true
    · rw [if_pos hd, if_pos hd, ih]
    · rw [if_neg hd, if_neg hd, if_neg (by simp)]; rfl
theorem trimL_eq_nil (l : List UInt8) : trimL l = [] ↔ l.all blankB = true := by
  induction l with
  | nil => simp [trimL]
  | cons c l ih => rw [trimL_cons]; by_cases h : blankB c = true <;> simp [h, ih]
theorem trimR_eq_nil (l : List UInt8) : trimR l = [] ↔ l.all blankB = true := by
  induction l with
  | nil => simp [trimR]
  | cons c l ih => rw [trimR_cons]; by_cases h : blankB c = true <;> by_cases h2 : trimR l = [] <;> simp_all
theorem trim_swap (l : List UInt8) : trimL (trimR l) = trimR (trimL l) := by
  induction l with
  | nil => rfl
  | cons c l ih =>
    rw [trimR_cons, trimL_cons]
    by_cases h2 : trimR l = []
    · rw [if_pos h2]
      have h3 := (trimR_eq_nil l).1 h2
      have h4 := (trimL_eq_nil l).2 h3
      by_cases h : blankB c = true
      · rw [if_pos h, if_pos h, h4]; rfl
      · rw [if_neg h, if_neg h, trimR_cons, if_pos h2, if_neg h, trimL_cons, if_neg h]
    · rw [if_neg h2]
      by_cases h : blankB c = true
      · rw [if_pos h, trimL_cons, if_pos h]; exact ih
      · rw [if_neg h, trimL_cons, if_neg h, trimR_cons, if_neg h2]
theorem trim_sign (s : ByteArray) (hs : s.size ≤ 4611686018427387904) : sign_Trim.f s = some ⟨(trimB s.data.toList).toArray⟩ := by
  unfold sign_Trim.f Lib.trimS Lib.trimLeftS Lib.trimRightS
  rw [if_pos (by omega), contains_blank]
  unfold trimB
  rw [← trim_swap]
  rfl
theorem trimB_length (l : List UInt8) : (trimB l).length ≤ l.length := by
  have a : ∀ l : List UInt8, (trimL l).length ≤ l.length := fun l => by
    induction l with
    | nil => simp [trimL]
    | cons c l ih => rw [trimL_cons]; split <;> simp; omega
  have b : ∀ l : List UInt8, (trimR l).length ≤ l.length := fun l => by
    induction l with
    | nil => simp [trimR]
    | cons c l ih => 
      rw [trimR_cons]
      by_cases h1 : trimR l = [] <;> by_cases h2 : blankB c = true <;> simp [h1, h2] <;> omega
  exact Nat.le_trans (b _) (a _)
/-- Nothing is left to trim. -/
theorem trimB_idem (l : List UInt8) : trimB (trimB l) = trimB l := by
  have a : ∀ l : List UInt8, trimL (trimL l) = trimL l := fun l => by
    induction l with
    | nil => rfl
    | cons c l ih =>
      rw [trimL_cons]
      by_cases h : blankB c = true
      · rw [if_pos h, ih]
      · rw [if_neg h, trimL_cons, if_neg h]
  have b : ∀ l : List UInt8, trimR (trimR l) = trimR l := fun l => by
    induction l with
    | nil => rfl
    | cons c l ih =>
      rw [trimR_cons]
      by_cases h2 : trimR l = []
      · rw [if_pos h2]
        by_cases h : blankB c = true
        · rw [if_pos h]; rfl
        · rw [if_neg h, trimR_cons, if_pos (by rfl), if_neg h]
      · rw [if_neg h2, trimR_cons, ih, if_neg h2]
  unfold trimB
  rw [trim_swap, b, a]
/-! ### the reference's loops -/
theorem trim_right (s : ByteArray) (hs : s.size ≤ 4611686018427387904) (p : Nat) (m : List UInt8) : ∀ (r : List UInt8), s.data.toList = s.data.toList.take p ++ m ++ r → (p + m.length : Nat) ≤ s.size → p ≤ s.size →
    Ev (fun k => pantryref01_Trim.l1 k s (p : Int) ((p + m.length : Nat) : Int)) ⟨(trimR m).toArray⟩ := by
  induction m using snoc_ind with
  | nil =>
    intro r hr h1 h2
    refine ev_one fun k => ?_
    simp only [pantryref01_Trim.l1, List.length_nil, Nat.add_zero]
    rw [if_neg (by omega), if_pos (by omega), if_pos (by omega), if_pos (by omega)]
    refine congrArg some (ba_ext ?_)
    rw [Lib.extract_data]; simp [trimR_nil]
  | snoc m c ih =>
    intro r hr h1 h2
    have hl : ((p + (m ++ [c]).length : Nat) : Int) = ((p + m.length : Nat) : Int) + 1 := by simp; omega
    have hw : wrap64 (((p + (m ++ [c]).length : Nat) : Int) - 1) = ((p + m.length : Nat) : Int) := by
      rw [hl]; simp at h1; rw [wrap_id (by omega) (by omega)]; omega
    have hp : (s.data.toList.take p).length = p := by rw [List.length_take, ← sz]; omega
    have hb : bt s ((p + m.length : Nat) : Int) = (c.toNat : Int) := by
      refine bt_of ?_
      rw [hr, Int.toNat_natCast, List.append_assoc, List.append_assoc, List.getElem?_append_right (by omega), hp, List.getElem?_append_right (by omega)]
      simp [show p + m.length - p - m.length = 0 by omega]
    simp at h1
    by_cases hc : blankB c = true
    · refine ev_to _ (ev_rw (ih (c :: r) (by simpa using hr) (by omega) h2) (by rw [trimR_snoc, if_pos hc])) fun k => ?_
      simp only [pantryref01_Trim.l1]
      rw [if_pos (by simp; omega), hw, if_pos (by omega), if_pos (by omega), hb, blank_ref, bind_some rfl, if_pos hc]
    · refine ev_one fun k => ?_
      simp only [pantryref01_Trim.l1]
      rw [if_pos (by simp; omega), hw, if_pos (by omega), if_pos (by omega), hb, blank_ref, bind_some rfl, if_neg hc, if_pos (by omega), if_pos (by omega), if_pos (by simp; omega), trimR_snoc, if_neg hc]
      refine congrArg some (ba_ext ?_)
      rw [Lib.extract_data, mk_data, Int.toNat_natCast, Int.toNat_natCast]
      rw [hr, List.append_assoc, List.drop_append_of_le_length (by omega)]
      rw [List.drop_of_length_le (by omega), List.nil_append, show p + (m ++ [c]).length - p = (m ++ [c]).length by omega, List.take_left]
theorem trim_left (s : ByteArray) (hs : s.size ≤ 4611686018427387904) (l : List UInt8) : ∀ i, Sfx s i l → Ev (fun k => pantryref01_Trim.l0 k s i (s.size : Int)) ⟨(trimR (trimL l)).toArray⟩ := by
  have fin : ∀ i l, Sfx s i l → Ev (fun k => pantryref01_Trim.j1 k s i (s.size : Int)) ⟨(trimR l).toArray⟩ := by
    intro i l h
    obtain ⟨p, rfl⟩ := Int.eq_ofNat_of_zero_le h.ge
    have hle := h.le
    have he : (s.size : Int) = ((p + l.length : Nat) : Int) := by omega
    have hq := h.eq
    rw [Int.toNat_natCast] at hq
    have := trim_right s hs p l [] (by rw [List.append_nil, ← hq, List.take_append_drop]) (by omega) (by omega)
    rw [he]
    exact ev_to _ this fun k => by simp only [pantryref01_Trim.j1]
  induction l with
  | nil =>
    intro i h
    refine ev_to _ (fin i [] h) fun k => ?_
    simp only [pantryref01_Trim.l0]; rw [if_neg h.stop]
  | cons c l ih =>
    intro i h
    by_cases hc : blankB c = true
    · refine ev_to _ (ev_rw (ih _ h.next) (by rw [trimL_cons, if_pos hc])) fun k => ?_
      simp only [pantryref01_Trim.l0]; rw [if_pos h.lt, if_pos h.ge, if_pos h.lt, h.bt, blank_ref, bind_some rfl, if_pos hc, h.wrap hs]
    · refine ev_to _ (ev_rw (fin _ _ h) (by rw [trimL_cons, if_neg hc])) fun k => ?_
      simp only [pantryref01_Trim.l0]; rw [if_pos h.lt, if_pos h.ge, if_pos h.lt, h.bt, blank_ref, bind_some rfl, if_neg hc]
theorem trim_ref (s : ByteArray) (hs : s.size ≤ 4611686018427387904) : Ev (fun k => pantryref01_Trim.f k s) ⟨(trimB s.data.toList).toArray⟩ :=
  trim_left s hs _ 0 (Sfx.start s)
end Go.Proofs.YtodfjcmjoogcgaaDoor.Pure
namespace Go.Proofs.YtodfjcmjoogcgaaDoor.Pure
open Go.RowKit Go.Proofs.YtodfjcmjoogcgaaDoor.P Go.Proofs.YtodfjcmjoogcgaaDoorW.PrintWords Go.Proofs.YtodfjcmjoogcgaaDoorW.PrintLast Go.Proofs.YtodfjcmjoogcgaaDoorW.PrintMore
set_option linter.unusedVariables false
set_option linter.unusedSimpArgs false
/-! ### a list's elements: a machine that knows whether it stands in quotes, and behind a backslash -/
def nq (q sk : Bool) (c : UInt8) : Bool := if sk then q else if q && c == 92 then q else if c == 34 then !q else q
def ns (q sk : Bool) (c : UInt8) : Bool := if sk then false else q && c == 92
def segs : Bool → Bool → List UInt8 → List UInt8 → List (List UInt8)
  | _, _, cur, [] => [cur]
  | q, sk, cur, c :: l => if c = 44 ∧ q = false then cur :: segs false false [] l else segs (nq q sk c) (ns q sk c) (cur ++ [c]) l
def mkb (l : List UInt8) : ByteArray := ⟨l.toArray⟩
def keep (l : List (List UInt8)) : List ByteArray := ((l.map trimB).filter fun e => !e.isEmpty).map mkb
/-- What List tells. -/
def elems (l : List UInt8) : List ByteArray := keep (segs false false [] l)
def endM : Bool → Bool → List UInt8 → Nat
  | _, _, [] => 0
  | q, sk, c :: l => if c = 44 ∧ q = false then 0 else 1 + endM (nq q sk c) (ns q sk c) l
theorem endM_le (l : List UInt8) : ∀ q sk, endM q sk l ≤ l.length := by
  induction l with
  | nil => intro q sk; simp [endM]
  | cons c l ih =>
    intro q sk; rw [endM]; split
    · omega
    · have := ih (nq q sk c) (ns q sk c); simp; omega
theorem keep_cons (a : List UInt8) (l : List (List UInt8)) : keep (a :: l) = if (trimB a).isEmpty then keep l else mkb (trimB a) :: keep l := by
  unfold keep; simp only [List.map_cons, List.filter_cons]
  by_cases h : (trimB a).isEmpty = true <;> simp [h]
theorem keep_nil : keep [] = [] := rfl
theorem segs_split (l : List UInt8) : ∀ q sk cur, segs q sk cur l = (cur ++ l.take (endM q sk l)) :: (if endM q sk l < l.length then segs false false [] (l.drop (endM q sk l + 1)) else []) := by
  induction l with
  | nil => intro q sk cur; simp [segs, endM]
  | cons c l ih =>
    intro q sk cur
    rw [segs, endM]
    by_cases h : c = 44 ∧ q = false
    · rw [if_pos h, if_pos h]; simp
    · rw [if_neg h, if_neg h, ih]
      rw [Nat.add_comm 1 (endM _ _ l)]
      simp
theorem b_eq (c : UInt8) (n : Nat) (hn : n < 256) : (c.toNat : Int) = (n : Int) ↔ c = UInt8.ofNat n := by
  constructor
  · intro h; apply UInt8.toNat_inj.1; rw [UInt8.toNat_ofNat']; omega
  · rintro rfl; rw [UInt8.toNat_ofNat']; omega
theorem c44 (c : UInt8) : (c.toNat : Int) = 44 ↔ c = 44 := b_eq c 44 (by omega)
theorem e34 (c : UInt8) : (c.toNat : Int) = 34 ↔ c = 34 := b_eq c 34 (by omega)
theorem e92 (c : UInt8) : (c.toNat : Int) = 92 ↔ c = 92 := b_eq c 92 (by omega)
theorem e92b (c : UInt8) : ((c.toNat : Int) == 92) = (c == 92) := by rw [Bool.eq_iff_iff]; simp [e92]
theorem e34b (c : UInt8) : ((c.toNat : Int) == 34) = (c == 34) := by rw [Bool.eq_iff_iff]; simp [e34]
theorem end_loop (s : ByteArray) (hs : s.size ≤ 140737488351232) (n : Nat) : ∀ l, l.length ≤ n → ∀ i q, Sfx s i l → Ev (fun k => sign_end.l0 k s q i) (i + endM q false l) := by
  induction n with
  | zero =>
    intro l hl i q h
    have : l = [] := List.length_eq_zero_iff.1 (by omega)
    subst this
    refine ev_one fun k => ?_
    simp only [sign_end.l0]; rw [if_neg h.stop, endM]; have := h.last; congr 1; omega
  | succ n ih =>
    intro l hl i q h
    match l, h, hl with
    | [], h, _ =>
      refine ev_one fun k => ?_
      simp only [sign_end.l0]; rw [if_neg h.stop, endM]; have := h.last; congr 1; omega
    | c :: l, h, hl =>
      simp at hl
      by_cases h1 : c = 34
      · refine ev_to _ (ev_rw (ih l hl (i + 1) (!q) h.next) ?_) fun k => ?_
        · rw [endM, if_neg (by subst h1; intro x; exact absurd x.1 (by decide))]
          have e1 : nq q false c = !q := by subst h1; cases q <;> rfl
          have e2 : ns q false c = false := by subst h1; cases q <;> rfl
          rw [e1, e2]; omega
        · simp only [sign_end.l0]; rw [if_pos h.lt, if_pos h.ge, h.bt, if_pos ((e34 c).2 h1), h.wrap (by omega)]
      · cases q with
        | true =>
          refine ev_to (fun k => sign_end.j1 k s true i (c == 92)) ?_ fun k => by
            simp only [sign_end.l0]; rw [if_pos h.lt, if_pos h.ge, h.bt, if_neg (fun x => h1 ((e34 c).1 x)), if_pos trivial, e92b]
          by_cases h2 : c = 92
          · have e1 : nq true false c = true := by subst h2; rfl
            have e2 : ns true false c = true := by subst h2; rfl
            have e0 : endM true false (c :: l) = 1 + endM true true l := by rw [endM, if_neg (by simp), e1, e2]
            rw [e0]
            match l, h, hl with
            | [], h, _ =>
              refine ev_mk 2 fun k => ?_
              have hl2 := h.next.last
              have hg := h.ge
              simp only [sign_end.j1]; rw [h2, if_pos (by rfl), h.wrap (by omega), wrap_id (by omega) (by omega)]
              simp only [sign_end.l0]; rw [if_neg (by omega), endM]; congr 1; omega
            | d :: l, h, hl =>
              simp at hl
              refine ev_to _ (ev_rw (ih l (by omega) (i + 1 + 1) true h.next.next) ?_) fun k => ?_
              · rw [endM, if_neg (by simp)]
                have e3 : nq true true d = true := rfl
                have e4 : ns true true d = false := rfl
                rw [e3, e4]; omega
              · simp only [sign_end.j1]; rw [h2, if_pos (by rfl), h.wrap (by omega), h.next.wrap (by omega)]
          · refine ev_to _ (ev_rw (ih l hl (i + 1) true h.next) ?_) fun k => ?_
            · rw [endM, if_neg (by simp)]
              have e1 : nq true false c = true := by simp [nq, h1, h2]
              have e2 : ns true false c = false := by simp [ns, h2]
              rw [e1, e2]; omega
            · simp only [sign_end.j1]; rw [if_neg (by simpa using h2), if_pos trivial, h.wrap (by omega)]
        | false =>
          refine ev_to (fun k => sign_end.j1 k s false i false) ?_ fun k => by
            simp only [sign_end.l0]; rw [if_pos h.lt, if_pos h.ge, h.bt, if_neg (fun x => h1 ((e34 c).1 x)), if_neg (by simp)]
          by_cases h2 : c = 44
          · refine ev_one fun k => ?_
            simp only [sign_end.j1]; rw [if_neg (by simp), if_neg (by simp), if_pos h.ge, if_pos h.lt, h.bt, if_pos ((c44 c).2 h2), endM, if_pos ⟨h2, rfl⟩]; simp
          · refine ev_to _ (ev_rw (ih l hl (i + 1) false h.next) ?_) fun k => ?_
            · rw [endM, if_neg (fun x => h2 x.1)]
              have e1 : nq false false c = false := by simp [nq, h1]
              have e2 : ns false false c = false := by simp [ns]
              rw [e1, e2]; omega
            · simp only [sign_end.j1]; rw [if_neg (by simp), if_neg (by simp), if_pos h.ge, if_pos h.lt, h.bt, if_neg (fun x => h2 ((c44 c).1 x)), h.wrap (by omega)]
theorem end_sign (s : ByteArray) (hs : s.size ≤ 140737488351232) : Ev (fun k => sign_end.f k s) (endM false false s.data.toList : Int) :=
  ev_rw (end_loop s hs _ _ (Nat.le_refl _) 0 false (Sfx.start s)) (by omega)
theorem list_loop (n : Nat) : ∀ (s : ByteArray), s.data.toList.length ≤ n → s.size ≤ 140737488351232 → ∀ out : List ByteArray, out.length + s.size < 8796093022208 → Ev (fun k => sign_List.l0 k s out) (out ++ elems s.data.toList) := by
  induction n with
  | zero =>
    intro s hl hs out ho
    have hnil : s.data.toList = [] := List.length_eq_zero_iff.1 (by omega)
    refine ev_one fun k => ?_
    simp only [sign_List.l0]; rw [tl, if_pos hnil, hnil]; simp [elems, segs, keep, trimB, trimL, trimR]
  | succ n ih =>
    intro s hl hs out ho
    by_cases hnil : s.data.toList = []
    · refine ev_one fun k => ?_
      simp only [sign_List.l0]; rw [tl, if_pos hnil, hnil]; simp [elems, segs, keep, trimB, trimL, trimR]
    have hq := sz s
    have hpos : 0 < s.data.toList.length := List.length_pos_iff.2 hnil
    have hle := endM_le s.data.toList false false
    have hsp := segs_split s.data.toList false false []
    have hend := end_sign s hs
    generalize hE : endM false false s.data.toList = E at *
    have hmn : mn (wrap64 ((E : Int) + 1)) (s.size : Int) = ((min (E + 1) s.size : Nat) : Int) := by
      rw [wrap_id (by omega) (by omega)]; unfold mn; split <;> omega
    have hcut : (s.extract 0 (E : Int).toNat).data.toList = s.data.toList.take E := by rw [Lib.extract_data]; simp
    have hcs : (s.extract 0 (E : Int).toNat).size ≤ 4611686018427387904 := by rw [sz, hcut, List.length_take]; omega
    have htr := trim_sign _ hcs
    rw [hcut] at htr
    have hrest : (s.extract ((min (E + 1) s.size : Nat) : Int).toNat s.size).data.toList = s.data.toList.drop (E + 1) := by
      rw [Lib.extract_data, Int.toNat_natCast]
      by_cases hlt : E + 1 ≤ s.size
      · rw [show min (E + 1) s.size = E + 1 from by omega, List.take_of_length_le (by rw [List.length_drop]; omega)]
      · rw [show min (E + 1) s.size = s.size from by omega, List.drop_of_length_le (by omega), List.drop_of_length_le (by omega)]; simp
    have hrs : (s.extract ((min (E + 1) s.size : Nat) : Int).toNat s.size).size = s.size - (E + 1) := by rw [sz, hrest, List.length_drop, hq]
    have hel : elems s.data.toList = (if (trimB (s.data.toList.take E)).isEmpty then [] else [mkb (trimB (s.data.toList.take E))]) ++ elems (s.data.toList.drop (E + 1)) := by
      unfold elems; rw [hsp, keep_cons, List.nil_append]
      by_cases hlt : E < s.data.toList.length
      · rw [if_pos hlt]; split <;> simp
      · rw [if_neg hlt, List.drop_of_length_le (by omega)]
        have : keep (segs false false [] []) = [] := rfl
        rw [this]; split <;> simp [keep_nil]
    have hT : ∀ o : List ByteArray, o.length ≤ out.length + 1 → Ev (fun k => sign_List.l0 k (s.extract ((min (E + 1) s.size : Nat) : Int).toNat s.size) o) (o ++ elems (s.data.toList.drop (E + 1))) := fun o ho2 => by
      have := ih (s.extract ((min (E + 1) s.size : Nat) : Int).toNat s.size) (by rw [hrest, List.length_drop]; omega) (by rw [hrs]; omega) o (by rw [hrs]; omega)
      rw [hrest] at this; exact this
    refine ev_to (fun k => (sign_end.f k s).bind fun t101 => (if 0 ≤ t101 then (if t101 ≤ (s.size : Int) then ((sign_Trim.f (s.extract 0 (t101 : Int).toNat)).bind fun t102 => (if t102.toList = ([] : List UInt8) then (if 0 ≤ (mn (wrap64 (t101 + 1)) (s.size : Int)) then (if (mn (wrap64 (t101 + 1)) (s.size : Int)) ≤ (s.size : Int) then (sign_List.l0 k (s.extract ((mn (wrap64 (t101 + 1)) (s.size : Int)) : Int).toNat s.size) out) else (none)) else (none)) else (if out.length < 8796093022208 then (if 0 ≤ (mn (wrap64 (t101 + 1)) (s.size : Int)) then (if (mn (wrap64 (t101 + 1)) (s.size : Int)) ≤ (s.size : Int) then (sign_List.l0 k (s.extract ((mn (wrap64 (t101 + 1)) (s.size : Int)) : Int).toNat s.size) (out ++ [t102])) else (none)) else (none)) else (none)))) else (none)) else (none))) ?_ fun k => by
        simp only [sign_List.l0]; rw [tl, if_neg hnil]
    refine ev_bind hend ?_
    rw [hel]
    by_cases he : (trimB (s.data.toList.take E)).isEmpty = true
    · refine ev_eq _ (ev_rw (hT out (by omega)) (by rw [if_pos he]; rfl)) fun k => ?_
      rw [if_pos (by omega), if_pos (by omega), bind_some htr, hmn, if_pos (by rw [tl, mk_data]; exact List.isEmpty_iff.1 he), if_pos (by omega), if_pos (by omega)]
    · refine ev_eq _ (ev_rw (hT (out ++ [mkb (trimB (s.data.toList.take E))]) (by simp)) (by rw [if_neg he]; simp)) fun k => ?_
      rw [if_pos (by omega), if_pos (by omega), bind_some htr, hmn, if_neg (by rw [tl, mk_data]; intro hx; exact he (by rw [hx]; rfl)), if_pos (by omega), if_pos (by omega), if_pos (by omega)]; rfl
theorem list_sign (s : ByteArray) (hs : s.size ≤ 8796093000000) : Ev (fun k => sign_List.f k s) (elems s.data.toList) :=
  ev_rw (list_loop _ s (Nat.le_refl _) (by omega) [] (by simp; omega)) (by simp)
/-! ### the reference -/
def qf : Bool → Bool → List UInt8 → List Bool
  | _, _, [] => []
  | q, sk, c :: l => (q || c == 34) :: qf (nq q sk c) (ns q sk c) l
theorem quoted_loop (s : ByteArray) (hs : s.size ≤ 140737488351232) (l : List UInt8) : ∀ i (fs : List Bool) q sk, Sfx s i l → fs.length = i.toNat → Ev (fun k => pantryref01_quoted.l0 k s (fs ++ List.replicate l.length false) q sk i) (fs ++ qf q sk l) := by
  induction l with
  | nil =>
    intro i fs q sk h hf
    refine ev_one fun k => ?_
    simp only [pantryref01_quoted.l0]; rw [if_neg h.stop]; simp [qf]
  | cons c l ih =>
    intro i fs q sk h hf
    have hg := h.ge
    have hlen : i < ((fs ++ List.replicate (c :: l).length false).length : Int) := by simp; omega
    have hset : ∀ b, (fs ++ List.replicate (c :: l).length false).set i.toNat b = (fs ++ [b]) ++ List.replicate l.length false := by
      intro b
      rw [← hf, List.set_append_right _ _ (Nat.le_refl _)]; simp [List.replicate_succ]
    have hI := ih (i + 1) (fs ++ [q || c == 34]) (nq q sk c) (ns q sk c) h.next (by simp; omega)
    refine ev_to (fun k => pantryref01_quoted.j1 k s ((fs ++ [q || c == 34]) ++ List.replicate l.length false) q sk i) ?_ fun k => ?_
    · refine ev_rw ?_ (show (fs ++ [q || c == 34]) ++ qf (nq q sk c) (ns q sk c) l = fs ++ qf q sk (c :: l) by simp [qf])
      cases sk with
      | true =>
        refine ev_to _ hI fun k => ?_
        simp only [pantryref01_quoted.j1]; rw [if_pos trivial, h.wrap (by omega)]; rfl
      | false =>
        cases q with
        | true =>
          refine ev_to (fun k => pantryref01_quoted.j2 k s ((fs ++ [true || c == 34]) ++ List.replicate l.length false) true false i (c == 92)) ?_ fun k => by
            simp only [pantryref01_quoted.j1]; rw [if_neg (by simp), if_pos trivial, if_pos h.ge, if_pos h.lt, h.bt, e92b]
          by_cases h2 : c = 92
          · refine ev_to _ hI fun k => ?_
            simp only [pantryref01_quoted.j2]; rw [h2, if_pos (by rfl), h.wrap (by omega)]; rfl
          · refine ev_to _ hI fun k => ?_
            simp only [pantryref01_quoted.j2]; rw [if_neg (by simpa using h2), if_pos h.ge, if_pos h.lt, h.bt, h.wrap (by omega)]
            by_cases h1 : c = 34
            · rw [if_pos ((e34 c).2 h1), h1]; rfl
            · rw [if_neg (fun x => h1 ((e34 c).1 x)), show nq true false c = true by simp [nq, h1, h2], show ns true false c = false by simp [ns, h2]]
        | false =>
          refine ev_to (fun k => pantryref01_quoted.j2 k s ((fs ++ [false || c == 34]) ++ List.replicate l.length false) false false i false) ?_ fun k => by
            simp only [pantryref01_quoted.j1]; rw [if_neg (by simp), if_neg (by simp)]
          refine ev_to _ hI fun k => ?_
          simp only [pantryref01_quoted.j2]; rw [if_neg (by simp), if_pos h.ge, if_pos h.lt, h.bt, h.wrap (by omega)]
          by_cases h1 : c = 34
          · rw [if_pos ((e34 c).2 h1), h1]; rfl
          · rw [if_neg (fun x => h1 ((e34 c).1 x)), show nq false false c = false by simp [nq, h1], show ns false false c = false by simp [ns]]
    · simp only [pantryref01_quoted.l0]; rw [if_pos h.lt, if_pos h.ge, if_pos hlen, hset, hset, h.bt, e34b]
      cases q with
      | true => rw [if_pos rfl]; rfl
      | false => rw [if_neg (by simp), if_pos h.ge, if_pos hlen]; rfl
theorem quoted_ref (s : ByteArray) (hs : s.size ≤ 140737488351232) : Ev (fun k => pantryref01_quoted.f k s) (qf false false s.data.toList) := by
  unfold pantryref01_quoted.f
  refine ev_eq _ (quoted_loop s hs _ 0 [] false false (Sfx.start s) rfl) fun k => ?_
  rw [if_pos (by omega), if_pos (by omega), List.nil_append, ← sz]; rfl
theorem qf_length (l : List UInt8) : ∀ q sk, (qf q sk l).length = l.length := by
  induction l with
  | nil => intro q sk; rfl
  | cons c l ih => intro q sk; simp [qf, ih]
theorem ref_list_loop (s : ByteArray) (hs : s.size ≤ 8796093000000) (F : List Bool) (hF : F.length = s.size) (l : List UInt8) : ∀ (p m : Nat) (cur : List UInt8) q sk (out : List ByteArray), Sfx s ((p + m : Nat) : Int) l → (s.data.toList.drop p).take m = cur → F.drop (p + m) = qf q sk l → cur.length = m → out.length ≤ p + m →
    Ev (fun k => pantryref01_List.l0 k s F out (p : Int) ((p + m : Nat) : Int)) (out ++ keep (segs q sk cur l)) := by
  have fin : ∀ (p m : Nat) (cur : List UInt8) (out : List ByteArray), p + m ≤ s.size → (s.data.toList.drop p).take m = cur → out.length ≤ p + m → ∀ (R : List ByteArray),
      (∀ o : List ByteArray, o.length ≤ out.length + 1 → Ev (fun k => pantryref01_List.l0 k s F o ((p + m + 1 : Nat) : Int) ((p + m + 1 : Nat) : Int)) (o ++ R)) →
      Ev (fun k => pantryref01_List.j1 k s F out (p : Int) ((p + m : Nat) : Int) false) (out ++ ((if (trimB cur).isEmpty then [] else [mkb (trimB cur)]) ++ R)) := by
    intro p m cur out hle hcur ho R hR
    have hcut : (s.extract ((p : Nat) : Int).toNat ((p + m : Nat) : Int).toNat).data.toList = cur := by
      rw [Lib.extract_data, Int.toNat_natCast, Int.toNat_natCast, ← hcur, Nat.add_sub_cancel_left]
    have htr := trim_ref (s.extract ((p : Nat) : Int).toNat ((p + m : Nat) : Int).toNat) (by rw [sz, hcut, ← hcur, List.length_take, List.length_drop, ← sz]; omega)
    rw [hcut] at htr
    have hw : wrap64 (((p + m : Nat) : Int) + 1) = ((p + m + 1 : Nat) : Int) := by rw [wrap_id (by omega) (by omega)]; omega
    refine ev_to (fun k => (pantryref01_Trim.f k (s.extract ((p : Nat) : Int).toNat ((p + m : Nat) : Int).toNat)).bind fun t139 => (if t139.toList = ([] : List UInt8) then (pantryref01_List.l0 k s F out ((p + m + 1 : Nat) : Int) ((p + m + 1 : Nat) : Int)) else (if out.length < 8796093022208 then (pantryref01_List.l0 k s F (out ++ [t139]) ((p + m + 1 : Nat) : Int) ((p + m + 1 : Nat) : Int)) else (none)))) ?_ fun k => by
        simp only [pantryref01_List.j1]; rw [if_neg (by simp), if_pos (by omega), if_pos (by omega), if_pos (by omega), hw]
    refine ev_bind htr ?_
    by_cases he : (trimB cur).isEmpty = true
    · refine ev_eq _ (ev_rw (hR out (by omega)) (by rw [if_pos he]; rfl)) fun k => ?_
      rw [if_pos (by rw [tl, mk_data]; exact List.isEmpty_iff.1 he)]
    · refine ev_eq _ (ev_rw (hR (out ++ [mkb (trimB cur)]) (by simp)) (by rw [if_neg he]; simp)) fun k => ?_
      rw [if_neg (by rw [tl, mk_data]; intro hx; exact he (by rw [hx]; rfl)), if_pos (by omega)]; rfl
  induction l with
  | nil =>
    intro p m cur q sk out h hcur hFd hm ho
    have hlast := h.last
    have := fin p m cur out (by omega) hcur ho [] (fun o _ => by
      refine ev_one fun k => ?_
      simp only [pantryref01_List.l0]; rw [if_neg (by omega)]; simp)
    refine ev_to _ (ev_rw this ?_) fun k => ?_
    · rw [segs, keep_cons, keep_nil]; split <;> simp
    · simp only [pantryref01_List.l0]; rw [if_pos (by omega), if_neg h.stop]
  | cons c l ih =>
    intro p m cur q sk out h hcur hFd hm ho
    have hlt := h.lt
    have hw : wrap64 (((p + m : Nat) : Int) + 1) = ((p + m + 1 : Nat) : Int) := by rw [wrap_id (by omega) (by omega)]; omega
    have hFi : rdOf false F ((p + m : Nat) : Int) = (q || c == 34) := by
      have := congrArg (·[0]?) hFd
      simp [List.getElem?_drop, qf] at this
      unfold rdOf
      rw [Int.toNat_natCast, List.getD_eq_getElem?_getD, this]; rfl
    have hFn : F.drop (p + m + 1) = qf (nq q sk c) (ns q sk c) l := by
      have := congrArg List.tail hFd
      rw [List.tail_drop] at this
      simpa [qf] using this
    have hnext : Sfx s ((p + m + 1 : Nat) : Int) l := by
      have := h.next
      rw [show ((p + m : Nat) : Int) + 1 = ((p + m + 1 : Nat) : Int) by omega] at this
      exact this
    by_cases hsplit : c = 44 ∧ q = false
    · have hI := fun o (ho2 : o.length ≤ out.length + 1) => ih (p + m + 1) 0 [] false false o hnext (by simp) (by rw [Nat.add_zero, hFn, hsplit.1, hsplit.2]; cases sk <;> rfl) rfl (by omega)
      have := fin p m cur out (by omega) hcur ho (keep (segs false false [] l)) (fun o ho2 => by simpa using hI o ho2)
      refine ev_to _ (ev_rw this ?_) fun k => ?_
      · rw [segs, if_pos hsplit, keep_cons]; split <;> simp
      · simp only [pantryref01_List.l0]; rw [if_pos (by omega), if_pos h.lt, if_pos h.ge, h.bt, if_pos ((c44 c).2 hsplit.1), if_pos (by rw [hF]; exact h.lt), hFi, hsplit.1, hsplit.2]; rfl
    · have hI := ih p (m + 1) (cur ++ [c]) (nq q sk c) (ns q sk c) out hnext (by
          have hat := h.at_
          rw [Int.toNat_natCast] at hat
          rw [List.take_add_one, hcur, List.getElem?_drop, hat]; rfl) hFn (by simp [hm]) (by omega)
      refine ev_to (fun k => pantryref01_List.j1 k s F out (p : Int) ((p + m : Nat) : Int) true) ?_ fun k => ?_
      · refine ev_to _ (ev_rw hI (by rw [segs, if_neg hsplit])) fun k => ?_
        simp only [pantryref01_List.j1]; rw [if_pos trivial, hw]; rfl
      · simp only [pantryref01_List.l0]; rw [if_pos (by omega), if_pos h.lt, if_pos h.ge, h.bt]
        by_cases h44 : c = 44
        · have hq : q = true := by cases q with
            | true => rfl
            | false => exact absurd ⟨h44, rfl⟩ hsplit
          rw [if_pos ((c44 c).2 h44), if_pos (by rw [hF]; exact h.lt), hFi, hq]; rfl
        · rw [if_neg (fun x => h44 ((c44 c).1 x))]
theorem list_ref (s : ByteArray) (hs : s.size ≤ 8796093000000) : Ev (fun k => pantryref01_List.f k s) (elems s.data.toList) := by
  unfold pantryref01_List.f
  refine ev_bind (quoted_ref s (by omega)) ?_
  exact ev_rw (ref_list_loop s hs _ (by rw [qf_length, sz]) s.data.toList 0 0 [] false false [] (Sfx.start s) (by simp) (by simp) rfl (by simp)) (by simp [elems])
/-! ### two lists of texts -/
theorem keep_length (l : List (List UInt8)) : (keep l).length ≤ l.length := by
  unfold keep; rw [List.length_map]
  exact Nat.le_trans (List.length_filter_le _ _) (by simp)
theorem segs_length (l : List UInt8) : ∀ q sk cur, (segs q sk cur l).length ≤ l.length + 1 := by
  induction l with
  | nil => intro q sk cur; simp [segs]
  | cons c l ih =>
    intro q sk cur; rw [segs]
    split
    · have := ih false false []; simp; omega
    · have := ih (nq q sk c) (ns q sk c) (cur ++ [c]); simp; omega
theorem elems_length (l : List UInt8) : (elems l).length ≤ l.length + 1 := Nat.le_trans (keep_length _) (segs_length _ _ _ _)
theorem keep_mem (L : List (List UInt8)) (e : ByteArray) (h : e ∈ keep L) : ∃ x ∈ L, e.data.toList = trimB x ∧ e.data.toList ≠ [] := by
  unfold keep at h
  obtain ⟨y, hy, rfl⟩ := List.mem_map.1 h
  obtain ⟨hy1, hy2⟩ := List.mem_filter.1 hy
  obtain ⟨x, hx, rfl⟩ := List.mem_map.1 hy1
  refine ⟨x, hx, rfl, ?_⟩
  intro hn
  have : trimB x = [] := hn
  rw [this] at hy2; simp at hy2
theorem segs_len (l : List UInt8) : ∀ q sk cur, ∀ x ∈ segs q sk cur l, x.length ≤ cur.length + l.length := by
  induction l with
  | nil => intro q sk cur x hx; simp [segs] at hx; subst hx; simp
  | cons c l ih =>
    intro q sk cur x hx
    rw [segs] at hx
    split at hx
    · rcases List.mem_cons.1 hx with rfl | hx
      · simp
      · have := ih false false [] x hx; simp at this ⊢; omega
    · have := ih _ _ _ x hx; simp at this ⊢; omega
theorem elems_size {l : List UInt8} {e : ByteArray} (h : e ∈ elems l) : e.size ≤ l.length ∧ e.data.toList ≠ [] ∧ trimB e.data.toList = e.data.toList := by
  obtain ⟨x, hx, he, hn⟩ := keep_mem _ _ h
  refine ⟨?_, hn, by rw [he, trimB_idem]⟩
  rw [sz, he]
  have h1 := trimB_length x
  have h2 := segs_len l false false [] x hx
  simp at h2
  omega
end Go.Proofs.YtodfjcmjoogcgaaDoor.Pure
namespace Go.Proofs.YtodfjcmjoogcgaaDoor.Pure
open Go.RowKit Go.Proofs.YtodfjcmjoogcgaaDoor.P Go.Proofs.YtodfjcmjoogcgaaDoorW.PrintWords Go.Proofs.YtodfjcmjoogcgaaDoorW.PrintLast Go.Proofs.YtodfjcmjoogcgaaDoorW.PrintMore
set_option linter.unusedVariables false
set_option linter.unusedSimpArgs false
/-- The values of a name. -/
def vals (n : ByteArray) (l : List S59) : List ByteArray := (l.filter fun f => lowEq n f.f0).map (·.f1)
/-- Texts, as one. -/
def joinC (l : List ByteArray) : List UInt8 := Lib.join (l.map (·.data.toList)) [44, 32]
theorem vals_length (n : ByteArray) (l : List S59) : (vals n l).length ≤ l.length := by
  unfold vals; rw [List.length_map]; exact List.length_filter_le _ _
theorem vals_mem {n : ByteArray} {l : List S59} {v : ByteArray} (h : v ∈ vals n l) : ∃ f ∈ l, f.f1 = v := by
  unfold vals at h
  obtain ⟨f, hf, rfl⟩ := List.mem_map.1 h
  exact ⟨f, (List.mem_filter.1 hf).1, rfl⟩
theorem vals_yes (a : ByteArray) (f : S59) (l : List S59) (h : lowEq a f.f0 = true) : vals a (f :: l) = f.f1 :: vals a l := by simp [vals, h]
theorem vals_no (a : ByteArray) (f : S59) (l : List S59) (h : ¬ lowEq a f.f0 = true) : vals a (f :: l) = vals a l := by simp [vals, h]
theorem all_loop (a : ByteArray) (ha : a.size ≤ 100000) (l : List S59) (hl : FOk l) (n : Nat) : ∀ (i : Nat) (out : List ByteArray), i + n = l.length → out.length + n ≤ 1000 → Ev (fun k => field_List_All.l0 k a out l (l.length : Int) (i : Int)) (out ++ vals a (l.drop i)) := by
  induction n with
  | zero =>
    intro i out hi ho
    refine ev_one fun k => ?_
    simp only [field_List_All.l0]
    rw [if_neg (by omega), List.drop_of_length_le (by omega)]
    simp [vals]
  | succ n ih =>
    intro i out hi ho
    have hlt : i < l.length := by omega
    obtain ⟨h0, h1⟩ := hl.2 l[i] (List.getElem_mem hlt)
    have hlen := hl.1
    rw [List.drop_eq_getElem_cons hlt]
    have hn := named_some l[i].f0 l[i].f1 [a] (by omega) (by intro x hx; simp at hx; subst hx; omega)
    simp only [List.any_cons, List.any_nil, Bool.or_false] at hn
    by_cases hb : lowEq a l[i].f0 = true
    · have e := vals_yes a l[i] (l.drop (i + 1)) hb
      rw [e]
      have := ih (i + 1) (out ++ [l[i].f1]) (by omega) (by simp; omega)
      rw [List.append_assoc, List.singleton_append] at this
      refine ev_to _ this fun k => ?_
      simp only [field_List_All.l0, rd_fld l i hlt]
      rw [if_pos (by omega), if_pos (by omega), if_pos (by omega), bind_some hn, if_pos hb, if_pos (by omega), wrap_nat i (by omega)]
    · have e := vals_no a l[i] (l.drop (i + 1)) hb
      rw [e]
      refine ev_to _ (ih (i + 1) out (by omega) (by omega)) fun k => ?_
      simp only [field_List_All.l0, rd_fld l i hlt]
      rw [if_pos (by omega), if_pos (by omega), if_pos (by omega), bind_some hn, if_neg hb, wrap_nat i (by omega)]
theorem all_some (a : ByteArray) (ha : a.size ≤ 100000) (l : List S59) (hl : FOk l) : Ev (fun k => field_List_All.f k l a) (vals a l) := by
  have := all_loop a ha l hl l.length 0 [] (by omega) (by have := hl.1; simp; omega)
  simp only [List.drop_zero, List.nil_append] at this
  exact this
theorem join_len (m : Nat) (sep : List UInt8) : ∀ l : List (List UInt8), (∀ x ∈ l, x.length ≤ m) → (Lib.join l sep).length ≤ l.length * (m + sep.length)
  | [], _ => by simp [Lib.join_nil]
  | x :: l, h => by
    rw [Lib.join_cons, List.length_append]
    have h1 := h x (by simp)
    have h2 : ∀ r : List (List UInt8), (∀ y ∈ r, y.length ≤ m) → (Lib.joinTail sep r).length ≤ r.length * (m + sep.length) := by
      intro r
      induction r with
      | nil => intro _; simp [Lib.joinTail]
      | cons y r ih =>
        intro hy
        have h3 := hy y (by simp)
        have h4 := ih (fun z hz => hy z (by simp [hz]))
        have e : Lib.joinTail sep (y :: r) = (sep ++ y) ++ Lib.joinTail sep r := by simp [Lib.joinTail]
        rw [e, List.length_append, List.length_append, List.length_cons, Nat.succ_mul]
        omega
    have h5 := h2 l (fun y hy => h y (by simp [hy]))
    rw [List.length_cons, Nat.succ_mul]
    omega
theorem joinC_len (l : List ByteArray) (n : Nat) (hn : l.length ≤ n) (h : ∀ x ∈ l, x.size ≤ 100000) : (joinC l).length ≤ n * 100002 := by
  have := join_len 100000 [44, 32] (l.map (·.data.toList)) (by intro x hx; obtain ⟨y, hy, rfl⟩ := List.mem_map.1 hx; have := h y hy; rw [sz] at this; exact this)
  rw [List.length_map] at this
  unfold joinC
  have h2 : l.length * (100000 + [44, 32].length) ≤ n * 100002 := Nat.mul_le_mul_right _ hn
  exact Nat.le_trans this h2
theorem vals_ok (a : ByteArray) (l : List S59) (hl : FOk l) : (vals a l).length ≤ 1000 ∧ ∀ x ∈ vals a l, x.size ≤ 100000 :=
  ⟨Nat.le_trans (vals_length a l) hl.1, fun x hx => by obtain ⟨f, hf, rfl⟩ := vals_mem hx; exact (hl.2 f hf).2⟩
theorem join_some (l : List ByteArray) (hn : l.length ≤ 1000) (h : ∀ x ∈ l, x.size ≤ 100000) : strings_Join.f l (⟨#[44, 32]⟩ : ByteArray) = some ⟨(joinC l).toArray⟩ := by
  unfold strings_Join.f
  have h2 := joinC_len l 1000 hn h
  unfold joinC at h2
  have e : (⟨#[44, 32]⟩ : ByteArray).data.toList = [44, 32] := rfl
  rw [if_pos ⟨by omega, by rw [e]; omega⟩]
  rfl
theorem get_some (a : ByteArray) (ha : a.size ≤ 100000) (l : List S59) (hl : FOk l) : Ev (fun k => field_List_Get.f k l a) (⟨(joinC (vals a l)).toArray⟩, !(vals a l).isEmpty) := by
  unfold field_List_Get.f
  refine ev_bind (all_some a ha l hl) (ev_now fun k => ?_)
  obtain ⟨h1, h2⟩ := vals_ok a l hl
  rw [bind_some (join_some _ h1 h2)]
  generalize vals a l = v
  cases v <;> simp
theorem elems_some (a : ByteArray) (ha : a.size ≤ 100000) (l : List S59) (hl : FOk l) : Ev (fun k => field_List_Elements.f k l a) (elems (joinC (vals a l))) := by
  unfold field_List_Elements.f
  refine ev_bind (get_some a ha l hl) ?_
  obtain ⟨h1, h2⟩ := vals_ok a l hl
  have h3 := joinC_len _ 1000 h1 h2
  have := list_sign (⟨(joinC (vals a l)).toArray⟩ : ByteArray) (by rw [mk_size]; omega)
  exact ev_bind this (ev_now fun k => rfl)
end Go.Proofs.YtodfjcmjoogcgaaDoor.Pure
namespace Go.Proofs.YtodfjcmjoogcgaaDoor.Pure
open Go.RowKit Go.Proofs.YtodfjcmjoogcgaaDoor.P Go.Proofs.YtodfjcmjoogcgaaDoorW.PrintWords Go.Proofs.YtodfjcmjoogcgaaDoorW.PrintLast Go.Proofs.YtodfjcmjoogcgaaDoorW.PrintMore
set_option linter.unusedVariables false
set_option linter.unusedSimpArgs false
theorem has_some (a w : ByteArray) (ha : a.size ≤ 100000) (hw : w.size ≤ 100000) (l : List S59) (hl : FOk l) : Ev (fun k => field_List_Has.f k l a w) ((elems (joinC (vals a l))).any fun e => lowEq e w) := by
  unfold field_List_Has.f
  refine ev_bind (elems_some a ha l hl) (ev_now fun k => ?_)
  obtain ⟨h1, h2⟩ := vals_ok a l hl
  have h3 := joinC_len _ 1000 h1 h2
  exact anyO_some _ _ _ (fun x hx => same_sign x w (by have := (elems_size hx).1; omega) (by omega))
end Go.Proofs.YtodfjcmjoogcgaaDoor.Pure
namespace Go.Proofs.YtodfjcmjoogcgaaDoor.Pure
open Go.RowKit Go.Proofs.YtodfjcmjoogcgaaDoor.P Go.Proofs.YtodfjcmjoogcgaaDoorW.PrintWords Go.Proofs.YtodfjcmjoogcgaaDoorW.PrintLast Go.Proofs.YtodfjcmjoogcgaaDoorW.PrintMore
set_option linter.unusedVariables false
set_option linter.unusedSimpArgs false
/-- A field as the document has it. -/
def cvF (f : S59) : S88 := ⟨f.f0, f.f1⟩
theorem rd_ref (l : List S88) (i : Nat) (h : i < l.length) : rd_T88 l (i : Int) = l[i] := by
  simp [rd_T88, List.getD, h]
theorem fields_loop (l : List S59) (hl : l.length ≤ 1000) (n : Nat) : ∀ (i : Nat) (out : List S88), i + n = l.length → out.length + n ≤ 1000 → Ev (fun k => pantrymade_Fields.l0 k out l (l.length : Int) (i : Int)) (out ++ (l.drop i).map cvF) := by
  induction n with
  | zero =>
    intro i out hi ho
    refine ev_one fun k => ?_
    simp only [pantrymade_Fields.l0]
    rw [if_neg (by omega), List.drop_of_length_le (by omega)]
    simp
  | succ n ih =>
    intro i out hi ho
    have hlt : i < l.length := by omega
    rw [List.drop_eq_getElem_cons hlt, List.map_cons]
    have := ih (i + 1) (out ++ [cvF l[i]]) (by omega) (by simp; omega)
    rw [List.append_assoc, List.singleton_append] at this
    refine ev_to _ this fun k => ?_
    simp only [pantrymade_Fields.l0, rd_fld l i hlt]
    rw [if_pos (by omega), if_pos (by omega), if_pos (by omega), if_pos (by omega), wrap_nat i (by omega)]
    rfl
theorem fields_some (l : List S59) (hl : l.length ≤ 1000) : Ev (fun k => pantrymade_Fields.f k l) (l.map cvF) := by
  have := fields_loop l hl l.length 0 [] (by omega) (by simpa using hl)
  simp only [List.drop_zero, List.nil_append] at this
  exact this
theorem is_some (f : S59) (a : ByteArray) (hf : f.f0.size ≤ 100000) (ha : a.size ≤ 100000) : Ev (fun k => pantryref03_Field_Is.f k (cvF f).f0 (cvF f).f1 a) (lowEq f.f0 a) := by
  unfold pantryref03_Field_Is.f
  refine ev_bind (lower_ref f.f0 (by omega)) (ev_bind (lower_ref a (by omega)) (ev_now fun k => ?_))
  rw [tl, tl]; rfl
theorem lowEq_comm (a b : ByteArray) : lowEq a b = lowEq b a := by
  unfold lowEq
  refine Bool.eq_iff_iff.2 ⟨fun h => ?_, fun h => ?_⟩ <;> rw [beq_iff_eq] at h ⊢ <;> exact h.symm
theorem joinC_snoc (l : List ByteArray) (x : ByteArray) : joinC (l ++ [x]) = if l = [] then x.data.toList else joinC l ++ [44, 32] ++ x.data.toList := by
  unfold joinC
  cases l with
  | nil => rw [if_pos rfl]; simp [Lib.join_one]
  | cons y l =>
    rw [if_neg (by simp)]
    simp only [List.cons_append, List.map_cons, Lib.join_cons, List.map_append, List.map_nil]
    simp [Lib.joinTail]
theorem ref_get_loop (a : ByteArray) (ha : a.size ≤ 100000) (l : List S59) (hl : FOk l) (n : Nat) : ∀ (i : Nat) (out : List ByteArray), i + n = l.length → out.length + n ≤ 1000 → (∀ x ∈ out, x.size ≤ 100000) → Ev (fun k => pantryref03_Get.l0 k (l.map cvF) a ⟨(joinC out).toArray⟩ (out.length : Int) (i : Int)) (⟨(joinC (out ++ vals a (l.drop i))).toArray⟩, ((out ++ vals a (l.drop i)).length : Int)) := by
  induction n with
  | zero =>
    intro i out hi ho hx
    refine ev_one fun k => ?_
    simp only [pantryref03_Get.l0]
    rw [if_neg (by rw [List.length_map]; omega), List.drop_of_length_le (by omega)]
    simp [vals]
  | succ n ih =>
    intro i out hi ho hx
    have hlt : i < l.length := by omega
    obtain ⟨h0, h1⟩ := hl.2 l[i] (List.getElem_mem hlt)
    have hlen := hl.1
    rw [List.drop_eq_getElem_cons hlt]
    have hr : rd_T88 (l.map cvF) (i : Int) = cvF l[i] := by rw [rd_ref _ i (by simpa using hlt), List.getElem_map]
    have hi2 := is_some l[i] a h0 ha
    have hjl := joinC_len out 1000 (by omega) hx
    by_cases hb : lowEq a l[i].f0 = true
    · have e := vals_yes a l[i] (l.drop (i + 1)) hb
      rw [e]
      have hih := ih (i + 1) (out ++ [l[i].f1]) (by omega) (by simp; omega) (by intro x hx2; rcases List.mem_append.1 hx2 with h | h; exact hx x h; simp at h; subst h; exact h1)
      rw [List.append_assoc, List.singleton_append] at hih
      rw [lowEq_comm, hb] at hi2
      obtain ⟨K1, hK1⟩ := hi2
      obtain ⟨K2, hK2⟩ := hih
      refine ⟨K1 + K2 + 1, fun k hk => ?_⟩
      obtain ⟨k, rfl⟩ : ∃ m, k = m + 1 := ⟨k - 1, by omega⟩
      have q1 := hK1 k (by omega)
      have q2 := hK2 k (by omega)
      simp only [pantryref03_Get.l0, hr]
      simp only at q1 q2
      rw [if_pos (by rw [List.length_map]; omega), if_pos (by omega), bind_some q1, if_pos rfl]
      rw [joinC_snoc] at q2
      have hcv : (cvF l[i]).f1 = l[i].f1 := rfl
      have hl1 : wrap64 ((out.length : Int) + 1) = ((out ++ [l[i].f1]).length : Int) := by rw [List.length_append, List.length_singleton, wrap_nat _ (by omega)]
      rw [hcv, hl1, wrap_nat i (by omega)]
      by_cases ho0 : out = []
      · subst ho0
        rw [if_pos rfl] at q2
        rw [if_neg (by simp), if_pos (by rw [mk_size]; simp [joinC, Lib.join_nil]; omega)]
        rw [show (⟨(joinC []).toArray⟩ : ByteArray) ++ l[i].f1 = ⟨l[i].f1.data.toList.toArray⟩ from ba_ext (by rw [data_app]; simp [joinC, Lib.join_nil])]
        exact q2
      · have hop := List.length_pos_iff.2 ho0
        rw [if_neg ho0] at q2
        rw [if_pos (by omega), if_pos (by rw [mk_size]; omega)]
        have e2 : ((⟨(joinC out).toArray⟩ : ByteArray) ++ (⟨#[44, 32]⟩ : ByteArray)).size = (joinC out).length + 2 := by rw [sz, data_app]; simp
        rw [if_pos (by rw [e2]; omega)]
        rw [show ((⟨(joinC out).toArray⟩ : ByteArray) ++ (⟨#[44, 32]⟩ : ByteArray)) ++ l[i].f1 = ⟨(joinC out ++ [44, 32] ++ l[i].f1.data.toList).toArray⟩ from ba_ext (by rw [data_app, data_app])]
        exact q2
    · have e := vals_no a l[i] (l.drop (i + 1)) hb
      rw [e]
      have hb2 : lowEq l[i].f0 a = false := by rw [lowEq_comm]; simpa using hb
      rw [hb2] at hi2
      obtain ⟨K1, hK1⟩ := hi2
      obtain ⟨K2, hK2⟩ := ih (i + 1) out (by omega) (by omega) hx
      refine ⟨K1 + K2 + 1, fun k hk => ?_⟩
      obtain ⟨k, rfl⟩ : ∃ m, k = m + 1 := ⟨k - 1, by omega⟩
      have q1 := hK1 k (by omega)
      have q2 := hK2 k (by omega)
      simp only [pantryref03_Get.l0, hr]
      simp only at q1 q2
      rw [if_pos (by rw [List.length_map]; omega), if_pos (by omega), bind_some q1, if_neg (by decide), wrap_nat i (by omega)]
      exact q2
theorem ref_get (a : ByteArray) (ha : a.size ≤ 100000) (l : List S59) (hl : FOk l) : Ev (fun k => pantryref03_Get.f k (l.map cvF) a) (⟨(joinC (vals a l)).toArray⟩, ((vals a l).length : Int)) := by
  have := ref_get_loop a ha l hl l.length 0 [] (by omega) (by have := hl.1; simp; omega) (by simp)
  simp only [List.drop_zero, List.nil_append] at this
  exact this
theorem ref_elems (a : ByteArray) (ha : a.size ≤ 100000) (l : List S59) (hl : FOk l) : Ev (fun k => pantryref03_Elements.f k (l.map cvF) a) (elems (joinC (vals a l))) := by
  unfold pantryref03_Elements.f
  refine ev_bind (ref_get a ha l hl) ?_
  obtain ⟨h1, h2⟩ := vals_ok a l hl
  have h3 := joinC_len _ 1000 h1 h2
  have := list_ref (⟨(joinC (vals a l)).toArray⟩ : ByteArray) (by rw [mk_size]; omega)
  exact ev_bind this (ev_now fun k => rfl)
/-- Of two names that are the same but for letters, the values are the same. -/
theorem vals_low (a b : ByteArray) (h : lowS a.data.toList = lowS b.data.toList) (l : List S59) : vals a l = vals b l := by
  unfold vals lowEq; rw [h]
end Go.Proofs.YtodfjcmjoogcgaaDoor.Pure
namespace Go.Proofs.YtodfjcmjoogcgaaDoor.Pure
open Go.RowKit Go.Proofs.YtodfjcmjoogcgaaDoor.P Go.Proofs.YtodfjcmjoogcgaaDoorW.PrintWords Go.Proofs.YtodfjcmjoogcgaaDoorW.PrintLast Go.Proofs.YtodfjcmjoogcgaaDoorW.PrintMore
set_option linter.unusedVariables false
set_option linter.unusedSimpArgs false
/-! ### numbers of digits -/
def digB (c : UInt8) : Bool := 48 ≤ c && c ≤ 57
def far : Int := 2147483648
def numL (a : Int) : List UInt8 → Option Int
  | [] => some a
  | c :: l => if digB c then numL (mn (10 * a + ((c.toNat : Int) - 48)) far) l else none
/-- What Number tells. -/
def numS (l : List UInt8) : Int × Bool := match numL 0 l with
  | some n => (n, !l.isEmpty)
  | none => (0, false)
theorem dig_lo (c : UInt8) (h : digB c = true) : 48 ≤ (c.toNat : Int) ∧ (c.toNat : Int) ≤ 57 := by
  unfold digB at h
  simp [UInt8.le_iff_toNat_le] at h
  omega
theorem dig_no (c : UInt8) (h : ¬ digB c = true) : (c.toNat : Int) < 48 ∨ 57 < (c.toNat : Int) := by
  unfold digB at h
  simp [UInt8.le_iff_toNat_le] at h
  omega
theorem number_loop (s : ByteArray) (hs : s.size ≤ 4611686018427387904) (l : List UInt8) : ∀ i a, Sfx s i l → 0 ≤ a → a ≤ far → Ev (fun k => sign_Number.l0 k s a (s.size : Int) i) (match numL a l with | some n => (n, !s.data.toList.isEmpty) | none => (0, false)) := by
  induction l with
  | nil =>
    intro i a h h0 h1
    refine ev_one fun k => ?_
    simp only [sign_Number.l0]; rw [if_neg h.stop, tl, ne_nilB]; rfl
  | cons c l ih =>
    intro i a h h0 h1
    have hf : far = 2147483648 := rfl
    by_cases hc : digB c = true
    · have hd := dig_lo c hc
      have hw : wrap64 (wrap64 (10 * a) + ((c.toNat : Int) - 48) % 256) = 10 * a + ((c.toNat : Int) - 48) := by
        rw [wrap_id (x := 10 * a) (by omega) (by omega), Int.emod_eq_of_lt (by omega) (by omega), wrap_id (by omega) (by omega)]
      refine ev_to _ (ev_rw (ih _ (mn (10 * a + ((c.toNat : Int) - 48)) far) h.next (by unfold mn; split <;> omega) (by unfold mn; split <;> omega)) (by rw [numL, if_pos hc])) fun k => ?_
      simp only [sign_Number.l0]; rw [if_pos h.lt, if_pos h.ge, if_pos h.lt, h.bt, if_neg (by omega), if_neg (by omega), hw, h.wrap hs]; rfl
    · have hd := dig_no c hc
      refine ev_one fun k => ?_
      simp only [sign_Number.l0]; rw [if_pos h.lt, if_pos h.ge, if_pos h.lt, h.bt, numL, if_neg hc]
      by_cases h48 : (c.toNat : Int) < 48
      · rw [if_pos h48]
      · rw [if_neg h48, if_pos (by omega)]
theorem number_sign (s : ByteArray) (hs : s.size ≤ 4611686018427387904) : Ev (fun k => sign_Number.f k s) (numS s.data.toList) :=
  ev_rw (number_loop s hs _ 0 0 (Sfx.start s) (by omega) (by unfold far; omega)) rfl
theorem numL_bd (l : List UInt8) : ∀ a n, 0 ≤ a → a ≤ far → numL a l = some n → 0 ≤ n ∧ n ≤ far := by
  induction l with
  | nil => intro a n h0 h1 h; cases h; exact ⟨h0, h1⟩
  | cons c l ih =>
    intro a n h0 h1 h
    rw [numL] at h
    by_cases hc : digB c = true
    · rw [if_pos hc] at h
      have hd := dig_lo c hc
      exact ih _ n (by unfold mn far at *; split <;> omega) (by unfold mn; split <;> omega) h
    · rw [if_neg hc] at h; cases h
theorem numS_bd (l : List UInt8) : 0 ≤ (numS l).1 ∧ (numS l).1 ≤ far := by
  unfold numS
  cases h : numL 0 l with
  | none => exact ⟨by simp, by unfold far; simp⟩
  | some n => exact numL_bd l 0 n (by omega) (by unfold far; omega) h
theorem number_ref_loop (s : ByteArray) (hs : s.size ≤ 4611686018427387904) (l : List UInt8) : ∀ i a b, Sfx s i l → 0 ≤ a → a ≤ 21474836489 → b = mn a far → Ev (fun k => pantryref01_Number.l0 k s a i) (match numL b l with | some n => (n, !s.data.toList.isEmpty) | none => (0, false)) := by
  induction l with
  | nil =>
    intro i a b h h0 h1 hb
    have hf : far = 2147483648 := rfl
    refine ev_one fun k => ?_
    simp only [pantryref01_Number.l0]; rw [if_neg h.stop, size_pos, hb, numL]
    by_cases hg : a > 2147483648
    · rw [if_pos hg]; unfold mn; rw [if_pos (by omega)]; rfl
    · rw [if_neg hg]; unfold mn; rw [if_neg (by omega)]
  | cons c l ih =>
    intro i a b h h0 h1 hb
    have hf : far = 2147483648 := rfl
    by_cases hc : digB c = true
    · have hd := dig_lo c hc
      have hmn : mn a far = if a < far then a else far := by unfold mn; split <;> split <;> omega
      refine ev_to (fun k => pantryref01_Number.j1 k s a i false) ?_ fun k => by
        simp only [pantryref01_Number.l0]; rw [if_pos h.lt, if_pos h.ge, h.bt, if_neg (by omega), decide_eq_false (by omega)]
      by_cases ha : a < 2147483648
      · have hw : wrap64 (wrap64 (10 * a) + ((c.toNat : Int) - 48) % 256) = 10 * a + ((c.toNat : Int) - 48) := by
          rw [wrap_id (x := 10 * a) (by omega) (by omega), Int.emod_eq_of_lt (by omega) (by omega), wrap_id (by omega) (by omega)]
        have hba : b = a := by rw [hb, hmn, if_pos (by omega)]
        refine ev_to _ (ev_rw (ih (i + 1) (10 * a + ((c.toNat : Int) - 48)) (mn (10 * a + ((c.toNat : Int) - 48)) far) h.next (by omega) (by omega) rfl) (by rw [hba, numL, if_pos hc])) fun k => ?_
        simp only [pantryref01_Number.j1]; rw [if_neg (by simp), if_pos ha, if_pos h.ge, if_pos h.lt, h.bt, hw, h.wrap hs]
      · have hba : b = far := by rw [hb, hmn, if_neg (by omega)]
        refine ev_to _ (ev_rw (ih (i + 1) a far h.next (by omega) (by omega) (by rw [hmn, if_neg (by omega)])) (by rw [hba, numL, if_pos hc, show mn (10 * far + ((c.toNat : Int) - 48)) far = far from by unfold mn; rw [if_pos (by omega)]])) fun k => ?_
        simp only [pantryref01_Number.j1]; rw [if_neg (by simp), if_neg ha, h.wrap hs]
    · have hd := dig_no c hc
      refine ev_to (fun k => pantryref01_Number.j1 k s a i true) ?_ fun k => ?_
      · refine ev_one fun k => ?_
        simp only [pantryref01_Number.j1]; rw [if_pos trivial, numL, if_neg hc]
      · simp only [pantryref01_Number.l0]; rw [if_pos h.lt, if_pos h.ge, h.bt]
        by_cases h48 : (c.toNat : Int) < 48
        · rw [if_pos h48]
        · rw [if_neg h48, decide_eq_true (by omega)]
theorem number_ref (s : ByteArray) (hs : s.size ≤ 4611686018427387904) : Ev (fun k => pantryref01_Number.f k s) (numS s.data.toList) :=
  ev_rw (number_ref_loop s hs _ 0 0 0 (Sfx.start s) (by omega) (by omega) (by decide)) rfl
end Go.Proofs.YtodfjcmjoogcgaaDoor.Pure
namespace Go.Proofs.YtodfjcmjoogcgaaDoor.Pure
open Go.RowKit Go.Proofs.YtodfjcmjoogcgaaDoor.P Go.Proofs.YtodfjcmjoogcgaaDoorW.PrintWords Go.Proofs.YtodfjcmjoogcgaaDoorW.PrintLast Go.Proofs.YtodfjcmjoogcgaaDoorW.PrintMore
set_option linter.unusedVariables false
set_option linter.unusedSimpArgs false
def bCL : ByteArray := ⟨#[67, 111, 110, 116, 101, 110, 116, 45, 76, 101, 110, 103, 116, 104]⟩
def bTE : ByteArray := ⟨#[84, 114, 97, 110, 115, 102, 101, 114, 45, 69, 110, 99, 111, 100, 105, 110, 103]⟩
def bCh : ByteArray := ⟨#[99, 104, 117, 110, 107, 101, 100]⟩
def lCL : ByteArray := ⟨#[99, 111, 110, 116, 101, 110, 116, 45, 108, 101, 110, 103, 116, 104]⟩
def lTE : ByteArray := ⟨#[116, 114, 97, 110, 115, 102, 101, 114, 45, 101, 110, 99, 111, 100, 105, 110, 103]⟩
/-- The length that elements say. -/
def lenL (last : Int) : List ByteArray → Int × Int × Int
  | [] => if last < 0 then (0, 0, 24) else if last > 2048 then (0, 0, 23) else (1, last, 0)
  | s :: l => if (numS s.data.toList).2 = true then (if last ≥ 0 then (if last = (numS s.data.toList).1 then lenL (numS s.data.toList).1 l else (0, 0, 24)) else lenL (numS s.data.toList).1 l) else (0, 0, 24)
def refL (first : Int) : List ByteArray → Int × Int × Int
  | [] => if first > 2048 then (0, 0, 23) else (1, first, 0)
  | s :: l => if (numS s.data.toList).2 = true then (if (numS s.data.toList).1 = first then refL first l else (0, 0, 24)) else (0, 0, 24)
theorem lenL_refL (n : Int) (hn : 0 ≤ n) (l : List ByteArray) : lenL n l = refL n l := by
  induction l with
  | nil => unfold lenL refL; rw [if_neg (by omega)]
  | cons s l ih =>
    unfold lenL refL
    by_cases h : (numS s.data.toList).2 = true
    · rw [if_pos h, if_pos h, if_pos hn]
      by_cases e : n = (numS s.data.toList).1
      · rw [if_pos e, if_pos e.symm, ← e, ih]
      · rw [if_neg e, if_neg (fun h => e h.symm)]
    · rw [if_neg h, if_neg h]
theorem lenL_first (s : ByteArray) (l : List ByteArray) : lenL (-1) (s :: l) = refL (numS s.data.toList).1 (s :: l) := by
  unfold refL
  rw [lenL]
  by_cases h : (numS s.data.toList).2 = true
  · rw [if_pos h, if_pos h, if_neg (by decide), if_pos rfl, lenL_refL _ (numS_bd _).1]
  · rw [if_neg h, if_neg h]
/-- The frame that fields say; an error's number. -/
def frameP (minor : Int) (l : List S59) (other : Int) : Int × Int × Int :=
  if (vals bTE l).isEmpty = false then
    (if (vals bCL l).isEmpty = false ∨ minor = 0 ∨ (elems (joinC (vals bTE l))).length ≠ 1 ∨ ((elems (joinC (vals bTE l))).any fun e => lowEq e bCh) = false then (0, 0, 24) else (2, 0, 0))
  else if (vals bCL l).isEmpty = false then lenL (-1) (elems (joinC (vals bCL l))) else (other, 0, 0)
theorem len_loop (es : List ByteArray) (he : ∀ e ∈ es, e.size ≤ 4611686018427387904) (hl : es.length ≤ 4611686018427387000) (n : Nat) : ∀ (i : Nat) (last : Int), i + n = es.length → Ev (fun k => body_length.l0 k last es (es.length : Int) (i : Int)) (lenL last (es.drop i)) := by
  induction n with
  | zero =>
    intro i last hi
    refine ev_one fun k => ?_
    simp only [body_length.l0]
    rw [if_neg (by omega), List.drop_of_length_le (by omega)]
    unfold lenL
    split
    · rfl
    · split <;> rfl
  | succ n ih =>
    intro i last hi
    have hlt : i < es.length := by omega
    rw [List.drop_eq_getElem_cons hlt]
    obtain ⟨K1, hK1⟩ := number_sign es[i] (he _ (List.getElem_mem hlt))
    obtain ⟨K2, hK2⟩ := ih (i + 1) (numS es[i].data.toList).1 (by omega)
    refine ⟨K1 + K2 + 1, fun k hk => ?_⟩
    obtain ⟨k, rfl⟩ : ∃ m, k = m + 1 := ⟨k - 1, by omega⟩
    have q1 := hK1 k (by omega)
    have q2 := hK2 k (by omega)
    simp only [body_length.l0, rd_str es i hlt]
    simp only at q1 q2
    rw [if_pos (by omega), if_pos (by omega), if_pos (by omega), bind_some q1, wrap_nat i (by omega)]
    unfold lenL
    by_cases h : (numS es[i].data.toList).2 = true
    · rw [if_pos h, if_pos h]
      by_cases hg : last ≥ 0
      · rw [if_pos hg, if_pos hg]
        by_cases e : last = (numS es[i].data.toList).1
        · rw [if_pos e, if_pos e]; exact q2
        · rw [if_neg e, if_neg e]
      · rw [if_neg hg, if_neg hg]; exact q2
    · rw [if_neg h, if_neg h]
theorem ref_len_loop (es : List ByteArray) (he : ∀ e ∈ es, e.size ≤ 4611686018427387904) (hl : es.length ≤ 4611686018427387000) (first : Int) (n : Nat) : ∀ (i : Nat), i + n = es.length → Ev (fun k => pantryref06_of.l0 k es first (i : Int)) (refL first (es.drop i)) := by
  induction n with
  | zero =>
    intro i hi
    refine ev_one fun k => ?_
    simp only [pantryref06_of.l0]
    rw [if_neg (by omega), List.drop_of_length_le (by omega)]
    unfold refL
    split <;> rfl
  | succ n ih =>
    intro i hi
    have hlt : i < es.length := by omega
    rw [List.drop_eq_getElem_cons hlt]
    obtain ⟨K1, hK1⟩ := number_ref es[i] (he _ (List.getElem_mem hlt))
    obtain ⟨K2, hK2⟩ := ih (i + 1) (by omega)
    refine ⟨K1 + K2 + 1, fun k hk => ?_⟩
    obtain ⟨k, rfl⟩ : ∃ m, k = m + 1 := ⟨k - 1, by omega⟩
    have q1 := hK1 k (by omega)
    have q2 := hK2 k (by omega)
    simp only [pantryref06_of.l0, rd_str es i hlt]
    simp only at q1 q2
    rw [if_pos (by omega), if_pos (by omega), bind_some q1, wrap_nat i (by omega)]
    unfold refL
    by_cases h : (numS es[i].data.toList).2 = true
    · rw [if_pos h, if_pos h]
      by_cases e : (numS es[i].data.toList).1 = first
      · rw [if_pos e, if_pos e]; exact q2
      · rw [if_neg e, if_neg e]
    · rw [if_neg h, if_neg h]
theorem elems_ok (a : ByteArray) (l : List S59) (hl : FOk l) : (elems (joinC (vals a l))).length ≤ 100002001 ∧ ∀ e ∈ elems (joinC (vals a l)), e.size ≤ 100002000 := by
  obtain ⟨h1, h2⟩ := vals_ok a l hl
  have h3 := joinC_len _ 1000 h1 h2
  refine ⟨Nat.le_trans (elems_length _) (by omega), fun e he => Nat.le_trans (elems_size he).1 (by omega)⟩
theorem length_some (l : List S59) (hl : FOk l) : Ev (fun k => body_length.f k l) (lenL (-1) (elems (joinC (vals bCL l)))) := by
  unfold body_length.f
  obtain ⟨h1, h2⟩ := elems_ok bCL l hl
  have := len_loop (elems (joinC (vals bCL l))) (fun e he => by have := h2 e he; omega) (by omega) (elems (joinC (vals bCL l))).length 0 (-1) (by omega)
  exact ev_bind (elems_some bCL (by decide) l hl) this
theorem of_some (minor other : Int) (l : List S59) (hl : FOk l) : Ev (fun k => body_of.f k minor l other) (frameP minor l other) := by
  unfold body_of.f
  refine ev_bind (get_some bCL (by decide) l hl) (ev_bind (get_some bTE (by decide) l hl) ?_)
  unfold frameP
  have hj : ∀ b : Bool, Ev (fun k => body_of.j0 k b) (if b = true then ((0, 0, 24) : Int × Int × Int) else (2, 0, 0)) := fun b => ev_one fun k => by
    simp only [body_of.j0]; split <;> rfl
  by_cases ht : (vals bTE l).isEmpty = true
  · simp only [ht, Bool.not_true, Bool.false_eq_true, if_false, Bool.true_eq_false]
    by_cases hc : (vals bCL l).isEmpty = true
    · simp only [hc, Bool.not_true, Bool.false_eq_true, if_false, Bool.true_eq_false]
      exact ev_now fun k => rfl
    · have hc : (vals bCL l).isEmpty = false := by simpa using hc
      simp only [hc, Bool.not_false, if_true]
      refine ev_bind (length_some l hl) (ev_now fun k => rfl)
  · have ht : (vals bTE l).isEmpty = false := by simpa using ht
    simp only [ht, Bool.not_false, if_true]
    by_cases hc : (vals bCL l).isEmpty = true
    · simp only [hc, Bool.not_true, Bool.false_eq_true, if_false, Bool.true_eq_false, false_or]
      by_cases hm : minor = 0
      · simp only [hm, if_true, true_or]
        exact hj true
      · simp only [hm, if_false, false_or]
        refine ev_bind (elems_some bTE (by decide) l hl) ?_
        by_cases hn : (elems (joinC (vals bTE l))).length = 1
        · have hn' : ((elems (joinC (vals bTE l))).length : Int) = 1 := by omega
          simp only [hn', if_true]
          refine ev_bind (has_some bTE bCh (by decide) (by decide) l hl) ?_
          simp only [hn, ne_eq, not_true, false_or]
          have := hj (!((elems (joinC (vals bTE l))).any fun e => lowEq e bCh))
          generalize ((elems (joinC (vals bTE l))).any fun e => lowEq e bCh) = b at *
          cases b <;> simpa using this
        · have hn' : ¬ ((elems (joinC (vals bTE l))).length : Int) = 1 := by omega
          simp only [hn', if_false, hn, ne_eq, not_false_eq_true, true_or, if_true]
          exact hj true
    · have hc : (vals bCL l).isEmpty = false := by simpa using hc
      simp only [hc, Bool.not_false, if_true, true_or]
      exact hj true
theorem lowCL (l : List S59) : vals lCL l = vals bCL l := vals_low _ _ (by decide +kernel) l
theorem lowTE (l : List S59) : vals lTE l = vals bTE l := vals_low _ _ (by decide +kernel) l
theorem ref_of_some (a b : ByteArray) (c minor other : Int) (l : List S59) (hl : FOk l) : Ev (fun k => pantryref06_of.f k a b c minor (l.map cvF) other) (frameP minor l other) := by
  unfold pantryref06_of.f
  have g1 := ref_get lCL (by decide) l hl
  have g2 := ref_get lTE (by decide) l hl
  have e1 := ref_elems lCL (by decide) l hl
  have e2 := ref_elems lTE (by decide) l hl
  rw [lowCL] at g1 e1
  rw [lowTE] at g2 e2
  refine ev_bind g1 (ev_bind g2 ?_)
  unfold frameP
  obtain ⟨k1, k2⟩ := elems_ok bTE l hl
  obtain ⟨k3, k4⟩ := elems_ok bCL l hl
  have hpos : ∀ v : List ByteArray, ((v.length : Int) > 0 ↔ v.isEmpty = false) := by intro v; cases v <;> simp <;> try omega
  have hzero : ∀ v : List ByteArray, ((v.length : Int) = 0 ↔ v.isEmpty = true) := by intro v; cases v <;> simp <;> try omega
  by_cases ht : (vals bTE l).isEmpty = true
  · have ht2 : ¬ ((vals bTE l).length : Int) > 0 := by rw [hpos, ht]; decide
    simp only [ht2, if_false, ht, Bool.true_eq_false]
    by_cases hc : (vals bCL l).isEmpty = true
    · have hc2 := (hzero _).2 hc
      simp only [hc2, if_true, hc, Bool.true_eq_false, if_false]
      exact ev_now fun k => rfl
    · have hc2 : ¬ ((vals bCL l).length : Int) = 0 := by rw [hzero]; exact hc
      have hc : (vals bCL l).isEmpty = false := by simpa using hc
      simp only [hc2, if_false, hc, if_true]
      refine ev_bind e1 ?_
      generalize elems (joinC (vals bCL l)) = es at *
      cases es with
      | nil => simp only [List.length_nil, Int.natCast_zero, if_true]; exact ev_now fun k => rfl
      | cons s r =>
        have h0 : ¬ (((s :: r).length : Nat) : Int) = 0 := by rw [List.length_cons]; omega
        have h1 : (0 : Int) < (((s :: r).length : Nat) : Int) := by rw [List.length_cons]; omega
        simp only [h0, h1, if_false, if_true]
        have hr : rdOf ByteArray.empty (s :: r) 0 = s := rfl
        rw [hr]
        refine ev_bind (number_ref s (by have := k4 s (by simp); omega)) ?_
        rw [lenL_first]
        exact ref_len_loop (s :: r) (fun e he => by have := k4 e he; omega) (by omega) _ _ 0 (by simp; rfl)
  · have ht : (vals bTE l).isEmpty = false := by simpa using ht
    have ht2 : ((vals bTE l).length : Int) > 0 := by rw [hpos, ht]
    simp only [ht2, if_true, ht]
    refine ev_bind e2 ?_
    by_cases hc : (vals bCL l).isEmpty = true
    · have hc2 : ¬ ((vals bCL l).length : Int) > 0 := by rw [hpos, hc]; decide
      simp only [hc2, if_false, hc, Bool.true_eq_false, false_or]
      by_cases hm : minor = 0
      · simp only [hm, if_true, true_or]; exact ev_now fun k => rfl
      · simp only [hm, if_false, false_or]
        generalize elems (joinC (vals bTE l)) = es at *
        match es with
        | [] => simp; exact ev_now fun k => rfl
        | [s] =>
          simp only [List.length_singleton, List.any_cons, List.any_nil, Bool.or_false, ne_eq, not_true, false_or]
          have h1 : (0 : Int) < ((1 : Nat) : Int) := by decide
          simp only [h1, if_true, show (((1 : Nat) : Int) = 1) from rfl]
          have hr : rdOf ByteArray.empty [s] 0 = s := rfl
          rw [hr]
          refine ev_bind (lower_ref s (by have := k2 s (by simp); omega)) (ev_now fun k => ?_)
          have hlow : lowEq s bCh = true ↔ lowS s.data.toList = [99, 104, 117, 110, 107, 101, 100] := by
            unfold lowEq
            rw [show lowS bCh.data.toList = [99, 104, 117, 110, 107, 101, 100] from by decide +kernel]
            simp
          rw [tl, mk_data]
          by_cases hx : lowS s.data.toList = [99, 104, 117, 110, 107, 101, 100]
          · rw [if_pos hx, if_neg (by rw [hlow.2 hx]; decide)]
          · rw [if_neg hx, if_pos (by simpa using fun h => hx (hlow.1 h))]
        | s :: t :: r =>
          have h0 : ¬ (((s :: t :: r).length : Nat) : Int) = 1 := by rw [List.length_cons, List.length_cons]; omega
          simp only [h0, if_false]
          rw [if_pos (.inl (by simp))]
          exact ev_now fun k => rfl
    · have hc : (vals bCL l).isEmpty = false := by simpa using hc
      have hc2 : ((vals bCL l).length : Int) > 0 := by rw [hpos, hc]
      simp only [hc2, if_true, hc, true_or]
      exact ev_now fun k => rfl
end Go.Proofs.YtodfjcmjoogcgaaDoor.Pure
namespace Go.Proofs.YtodfjcmjoogcgaaDoor.Pure
open Go.RowKit Go.Proofs.YtodfjcmjoogcgaaDoor.P Go.Proofs.YtodfjcmjoogcgaaDoorW.PrintWords Go.Proofs.YtodfjcmjoogcgaaDoorW.PrintLast Go.Proofs.YtodfjcmjoogcgaaDoorW.PrintMore
set_option linter.unusedVariables false
set_option linter.unusedSimpArgs false
def smallF (f : S59) : Bool := decide (f.f0.size ≤ 100) && decide (f.f1.size ≤ 300)
theorem small_loop (l : List S59) (hl : l.length ≤ 9223372036854775807) (n : Nat) : ∀ i : Nat, i + n = l.length → Ev (fun k => pantrylaw06_small.l0 k l l (l.length : Int) (i : Int)) ((l.drop i).all smallF && decide ((l.length : Int) ≤ 30)) := by
  induction n with
  | zero =>
    intro i hi
    refine ev_one fun k => ?_
    simp only [pantrylaw06_small.l0]
    rw [if_neg (by omega), List.drop_of_length_le (by omega)]
    simp
  | succ n ih =>
    intro i hi
    have hlt : i < l.length := by omega
    rw [List.drop_eq_getElem_cons hlt, List.all_cons]
    have w : wrap64 ((i : Int) + 1) = ((i + 1 : Nat) : Int) := by rw [wrap_id (by omega) (by omega)]; omega
    by_cases h : smallF l[i] = true
    · rw [h, Bool.true_and]
      refine ev_to _ (ih (i + 1) (by omega)) fun k => ?_
      simp only [smallF, Bool.and_eq_true, decide_eq_true_eq] at h
      simp only [pantrylaw06_small.l0, rd_fld l i hlt]
      rw [if_pos (by omega), if_pos (by omega), if_pos (by omega), if_neg (by omega), if_neg (by omega), w]
    · have h' : smallF l[i] = false := by simpa using h
      rw [h', Bool.false_and, Bool.false_and]
      refine ev_one fun k => ?_
      simp only [smallF, Bool.and_eq_true, decide_eq_true_eq] at h
      simp only [pantrylaw06_small.l0, rd_fld l i hlt]
      rw [if_pos (by omega), if_pos (by omega), if_pos (by omega)]
      by_cases h1 : (l[i].f0.size : Int) > 100
      · rw [if_pos h1]
      · rw [if_neg h1, if_pos (by omega)]
theorem small_some (l : List S59) (hl : l.length ≤ 9223372036854775807) : Ev (fun k => pantrylaw06_small.f k l) (l.all smallF && decide ((l.length : Int) ≤ 30)) := by
  have := small_loop l hl l.length 0 (by omega)
  simp only [List.drop_zero, List.nil_append] at this
  exact this
theorem small_ok {l : List S59} (h : (l.all smallF && decide ((l.length : Int) ≤ 30)) = true) : FOk l := by
  simp only [Bool.and_eq_true, List.all_eq_true, decide_eq_true_eq] at h
  refine ⟨by omega, fun x hx => ?_⟩
  have := h.1 x hx
  simp only [smallF, Bool.and_eq_true, decide_eq_true_eq] at this
  omega
theorem ev_ex {α : Type} {g : Nat → Option α} {r : α} (h : Ev g r) : ∃ k, g k = some r := by
  obtain ⟨K, hK⟩ := h; exact ⟨K, hK K (Nat.le_refl _)⟩
end Go.Proofs.YtodfjcmjoogcgaaDoor.Pure
namespace Go.Proofs.YtodfjcmjoogcgaaDoor.Pure
open Go.RowKit Go.Proofs.YtodfjcmjoogcgaaDoor.P Go.Proofs.YtodfjcmjoogcgaaDoorW.PrintWords Go.Proofs.YtodfjcmjoogcgaaDoorW.PrintLast Go.Proofs.YtodfjcmjoogcgaaDoorW.PrintMore
set_option linter.unusedVariables false
set_option linter.unusedSimpArgs false
theorem anchor06f : pantrylaw06_anchor.f = some true := rfl
theorem req_made (a b : ByteArray) (minor : Int) (l : List S59) (hl : FOk l) : Ev (fun k => pantrymade_Request.f k a b minor l) (a, b, 0, minor, l.map cvF) := by
  unfold pantrymade_Request.f
  exact ev_bind (fields_some l hl.1) (ev_now fun k => rfl)
theorem resp_made (s : Int) (a : ByteArray) (minor : Int) (l : List S59) (hl : FOk l) : Ev (fun k => pantrymade_Response.f k s a minor l) (a, (⟨#[]⟩ : ByteArray), s, minor, l.map cvF) := by
  unfold pantrymade_Response.f
  exact ev_bind (fields_some l hl.1) (ev_now fun k => rfl)
/-- The frame of a response. -/
def respP (m : ByteArray) (s minor : Int) (l : List S59) : Int × Int × Int :=
  if m.data.toList = [72, 69, 65, 68] then (0, 0, 0) else if s < 200 then (0, 0, 0) else if s = 204 then (0, 0, 0) else if s = 304 then (0, 0, 0) else frameP minor l 3
theorem resp_some (m : ByteArray) (s : Int) (a : ByteArray) (minor : Int) (l : List S59) (hl : FOk l) : Ev (fun k => body_OfResponse.f k m s a minor l) (respP m s minor l) := by
  unfold body_OfResponse.f respP
  rw [tl]
  split
  · exact ev_now fun k => rfl
  · split
    · exact ev_now fun k => rfl
    · split
      · exact ev_now fun k => rfl
      · split
        · exact ev_now fun k => rfl
        · exact ev_bind (of_some minor 3 l hl) (ev_now fun k => rfl)
theorem ref_resp_some (m a b : ByteArray) (s minor : Int) (l : List S59) (hl : FOk l) : Ev (fun k => pantryref06_OfResponse.f k m a b s minor (l.map cvF)) (respP m s minor l) := by
  unfold pantryref06_OfResponse.f respP
  rw [tl]
  split
  · exact ev_now fun k => rfl
  · split
    · exact ev_now fun k => rfl
    · split
      · exact ev_now fun k => rfl
      · split
        · exact ev_now fun k => rfl
        · exact ev_bind (ref_of_some a b s minor 3 l hl) (ev_now fun k => rfl)
theorem frames_j1 (m : ByteArray) (s : Int) (a : ByteArray) (minor : Int) (l : List S59) (hl : FOk l) : Ev (fun k => pantrylaw06_BodyFrames.j1 k m false s a minor l) true := by
  have h1 := resp_some m s a minor l hl
  have h2 := resp_made s a minor l hl
  have h3 := ref_resp_some m a (⟨#[]⟩ : ByteArray) s minor l hl
  refine ev_to (fun k => (body_OfResponse.f k m s a minor l).bind fun bt359 => ((pantrymade_Response.f k s a minor l).bind fun bt362 => ((pantryref06_OfResponse.f k m bt362.1 bt362.2.1 bt362.2.2.1 bt362.2.2.2.1 bt362.2.2.2.2).bind fun bt369 => (if bt359.2.2 = bt369.2.2 then ((pantrymade_Frame.f bt359.1 bt359.2.1).bind fun bt372 => (some (bt372.1 == bt369.1 && (bt372.2 == bt369.2.1)))) else (some false))))) ?_ (fun k => by simp only [pantrylaw06_BodyFrames.j1]; rw [if_neg (by decide)])
  refine ev_bind h1 (ev_bind h2 (ev_bind h3 (ev_now fun k => ?_)))
  simp [pantrymade_Frame.f]
theorem frames_j0 (minor s : Int) (m : ByteArray) (l : List S59) (hl : FOk l) : Ev (fun k => pantrylaw06_BodyFrames.j0 k minor s m l false) true := by
  have h1 : Ev (fun k => body_OfRequest.f k (⟨#[]⟩ : ByteArray) (⟨#[]⟩ : ByteArray) minor l) (frameP minor l 0) := by
    unfold body_OfRequest.f
    exact ev_bind (of_some minor 0 l hl) (ev_now fun k => rfl)
  have h2 := req_made (⟨#[]⟩ : ByteArray) (⟨#[]⟩ : ByteArray) minor l hl
  have h3 : Ev (fun k => pantryref06_OfRequest.f k (⟨#[]⟩ : ByteArray) (⟨#[]⟩ : ByteArray) 0 minor (l.map cvF)) (frameP minor l 0) := by
    unfold pantryref06_OfRequest.f
    exact ev_bind (ref_of_some _ _ 0 minor 0 l hl) (ev_now fun k => rfl)
  have h4 := frames_j1 m s (⟨#[]⟩ : ByteArray) minor l hl
  obtain ⟨K1, h1⟩ := h1
  obtain ⟨K2, h2⟩ := h2
  obtain ⟨K3, h3⟩ := h3
  obtain ⟨K4, h4⟩ := h4
  refine ⟨K1 + K2 + K3 + K4 + 1, fun k hk => ?_⟩
  obtain ⟨k, rfl⟩ : ∃ m, k = m + 1 := ⟨k - 1, by omega⟩
  simp only [pantrylaw06_BodyFrames.j0]
  rw [if_neg (by decide), bind_some (h1 k (by omega)), bind_some (h2 k (by omega)), bind_some (h3 k (by omega)), if_pos rfl, bind_some (show pantrymade_Frame.f (frameP minor l 0).1 (frameP minor l 0).2.1 = some ((frameP minor l 0).1, (frameP minor l 0).2.1) from rfl)]
  simp only [BEq.rfl, Bool.not_true, Bool.or_false]
  exact h4 k (by omega)
theorem frames_true (minor s : Int) (m : ByteArray) (l : List S59) : Ev (fun k => pantrylaw06_BodyFrames.j0 k minor s m l true) true :=
  ev_one fun k => by simp only [pantrylaw06_BodyFrames.j0]; rw [if_pos trivial]
theorem BodyFrames : ∀ (a0 : Int) (a1 : Int) (a2 : ByteArray) (l3 : List (S59)), (Lit.int .i64 a0).wf = true → (Lit.int .i64 a1).wf = true → a2.size ≤ 140737488351232 → (l3.length ≤ 9223372036854775807 ∧ ∀ x ∈ l3, (x.f0.size ≤ 9223372036854775807) ∧ (x.f1.size ≤ 9223372036854775807)) → ∃ k, pantrylaw06_BodyFrames.f k a0 a1 a2 l3 = some true := by
  intro a0 a1 a2 l3 _ _ _ h3
  refine ev_ex ?_
  unfold pantrylaw06_BodyFrames.f
  refine ev_bind (ev_now fun k => anchor06f) ?_
  simp only [if_true]
  refine ev_bind (small_some l3 h3.1) ?_
  by_cases h : (l3.all smallF && decide ((l3.length : Int) ≤ 30)) = true
  · simp only [h, if_true]
    by_cases h2 : (a2.size : Int) > 30
    · simp only [h2, decide_true]; exact frames_true _ _ _ _
    · simp only [h2, decide_false]; exact frames_j0 _ _ _ _ (small_ok h)
  · simp only [h]
    exact frames_true _ _ _ _
end Go.Proofs.YtodfjcmjoogcgaaDoor.Pure
