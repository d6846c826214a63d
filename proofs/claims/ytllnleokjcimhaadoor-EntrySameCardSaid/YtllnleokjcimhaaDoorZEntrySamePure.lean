/-
  The plain law: what the functions of 'pantry' that this statement reaches compute, as lists and numbers, answers as the statement says.
-/
import Derived.Test.YtllnleokjcimhaaDoorZEntrySameWWords
import Derived.Test.YtllnleokjcimhaaDoorZEntrySameWLast
import Derived.Test.YtllnleokjcimhaaDoorZEntrySameWMore
import Derived.Lib.SlTrimSet
import Derived.Lib.Strings
import Derived.Test.YtllnleokjcimhaaDoorZEntrySamePx3
import Derived.Test.YtllnleokjcimhaaDoorZEntrySamePx10
import Derived.Test.YtllnleokjcimhaaDoorZEntrySameHelp
import Derived.Test.YtllnleokjcimhaaDoorZEntrySamePx0
namespace Go.Proofs.YtllnleokjcimhaaDoor.Pure
open Go.RowKit Go.Proofs.YtllnleokjcimhaaDoorW.PrintWords Go.Proofs.YtllnleokjcimhaaDoorW.PrintLast Go.Proofs.YtllnleokjcimhaaDoorW.PrintMore
set_option linter.unusedVariables false
set_option linter.unusedSimpArgs false
/-! ### numbers -/
theorem wrap_id {x : Int} (h1 : -9223372036854775808 ≤ x) (h2 : x ≤ 9223372036854775807) : wrap64 x = x := by unfold wrap64; omega
theorem all_bytes {p : Nat → Prop} (h : ∀ n, n < 256 → p n) (c : UInt8) : p c.toNat := h _ c.toNat_lt
/-! ### bytes as lists -/
theorem ba_ext {s t : ByteArray} (h : s.data.toList = t.data.toList) : s = t := by
  cases s; cases t; simp only [ByteArray.mk.injEq]; exact Array.toList_inj.1 h
theorem tl (s : ByteArray) : s.toList = s.data.toList := Lib.toList_data s
theorem sz (s : ByteArray) : s.size = s.data.toList.length := Lib.size_eq s
theorem mk_eta (s : ByteArray) : (⟨s.data.toList.toArray⟩ : ByteArray) = s := ba_ext rfl
theorem ne_nilB (l : List UInt8) : (l != []) = !l.isEmpty := by cases l <;> rfl
theorem snoc_ind {α : Type} {p : List α → Prop} (nil : p []) (snoc : ∀ l a, p l → p (l ++ [a])) (l : List α) : p l := by
  rw [← List.reverse_reverse l]
  induction l.reverse with
  | nil => exact nil
  | cons a l ih => rw [List.reverse_cons]; exact snoc _ _ ih
/-- What stands in s from i on. -/
structure Sfx (s : ByteArray) (i : Int) (l : List UInt8) : Prop where
  ge : 0 ≤ i
  le : i + l.length = s.size
  eq : s.data.toList.drop i.toNat = l
theorem Sfx.start (s : ByteArray) : Sfx s 0 s.data.toList := ⟨by omega, by rw [sz]; omega, rfl⟩
theorem Sfx.stop {s : ByteArray} {i : Int} (h : Sfx s i []) : ¬ i < (s.size : Int) := by have := h.le; simp at this; omega
theorem Sfx.last {s : ByteArray} {i : Int} (h : Sfx s i []) : i = (s.size : Int) := by have := h.le; simp at this; omega
theorem Sfx.lt {s : ByteArray} {i : Int} {c : UInt8} {l : List UInt8} (h : Sfx s i (c :: l)) : i < (s.size : Int) := by have := h.le; simp at this; omega
theorem Sfx.at_ {s : ByteArray} {i : Int} {c : UInt8} {l : List UInt8} (h : Sfx s i (c :: l)) : s.data.toList[i.toNat]? = some c := by
  have := congrArg (·[0]?) h.eq
  simpa [List.getElem?_drop] using this
theorem bt_of {s : ByteArray} {i : Int} {c : UInt8} (h : s.data.toList[i.toNat]? = some c) : bt s i = (c.toNat : Int) := by
  have hl : i.toNat < s.size := by rw [sz]; exact (List.getElem?_eq_some_iff.1 h).1
  unfold bt
  rw [dif_pos hl]
  have h2 := (List.getElem?_eq_some_iff.1 h).2
  have : s[i.toNat]'hl = c := by rw [← h2]; rfl
  rw [this]
theorem Sfx.bt {s : ByteArray} {i : Int} {c : UInt8} {l : List UInt8} (h : Sfx s i (c :: l)) : bt s i = (c.toNat : Int) := bt_of h.at_
theorem Sfx.next {s : ByteArray} {i : Int} {c : UInt8} {l : List UInt8} (h : Sfx s i (c :: l)) : Sfx s (i + 1) l := by
  have h0 := h.ge
  refine ⟨by omega, by have := h.le; simp at this; omega, ?_⟩
  have := congrArg List.tail h.eq
  rw [List.tail_drop, List.tail_cons] at this
  rw [show (i + 1).toNat = i.toNat + 1 from by omega]; exact this
theorem Sfx.wrap {s : ByteArray} {i : Int} {c : UInt8} {l : List UInt8} (h : Sfx s i (c :: l)) (hs : s.size ≤ 4611686018427387904) : wrap64 (i + 1) = i + 1 :=
  wrap_id (by have := h.ge; omega) (by have := h.lt; omega)
theorem Sfx.tail {s : ByteArray} {i : Int} {l : List UInt8} (h : Sfx s i l) : (s.extract i.toNat s.size).data.toList = l := by
  rw [Lib.extract_data, h.eq, List.take_of_length_le]
  have := h.le; have := h.ge; omega
theorem Sfx.drop {s : ByteArray} {i : Int} {l m : List UInt8} (h : Sfx s i (l ++ m)) : Sfx s (i + l.length) m := by
  have h0 := h.ge; have h1 := h.le
  simp at h1
  refine ⟨by omega, by omega, ?_⟩
  rw [show (i + (l.length : Int)).toNat = i.toNat + l.length from by omega, ← List.drop_drop, h.eq, List.drop_left]
theorem Sfx.part {s : ByteArray} {i : Int} {l m : List UInt8} (h : Sfx s i (l ++ m)) (j : Int) (hj : j = i + l.length) : (s.extract i.toNat j.toNat).data.toList = l := by
  have h0 := h.ge
  rw [Lib.extract_data, h.eq, hj, show (i + (l.length : Int)).toNat - i.toNat = l.length from by omega, List.take_left]
/-! ### rounds -/
theorem ev_mk {α : Type} {g : Nat → Option α} {r : α} (K : Nat) (h : ∀ k, g (k + K) = some r) : Ev g r :=
  ⟨K, fun k hk => by obtain ⟨m, rfl⟩ : ∃ m, k = m + K := ⟨k - K, by omega⟩; exact h m⟩
theorem ev_now {α : Type} {g : Nat → Option α} {r : α} (h : ∀ k, g k = some r) : Ev g r := ⟨0, fun k _ => h k⟩
theorem ev_one {α : Type} {g : Nat → Option α} {r : α} (h : ∀ k, g (k + 1) = some r) : Ev g r := ev_mk 1 h
theorem ev_to {α : Type} {g : Nat → Option α} {r : α} (f : Nat → Option α) (k : Ev f r) (h : ∀ k, g (k + 1) = f k) : Ev g r := Ev.step h k
theorem ev_eq {α : Type} {g : Nat → Option α} {r : α} (f : Nat → Option α) (k : Ev f r) (h : ∀ k, g k = f k) : Ev g r := Ev.congr h k
theorem ev_bind {α β : Type} {g : Nat → Option α} {f : Nat → α → Option β} {a : α} {r : β} (h : Ev g a) (k : Ev (fun n => f n a) r) : Ev (fun n => (g n).bind (f n)) r := Ev.bind h k
theorem ev_rw {α : Type} {g : Nat → Option α} {r r' : α} (h : Ev g r) (e : r = r') : Ev g r' := e ▸ h
theorem bind_some {α β : Type} {a : α} {x : Option α} {f : α → Option β} (h : x = some a) : x.bind f = f a := by rw [h]; rfl
end Go.Proofs.YtllnleokjcimhaaDoor.Pure
namespace Go.Proofs.YtllnleokjcimhaaDoor.Pure
open Go.RowKit Go.Proofs.YtllnleokjcimhaaDoor.P Go.Proofs.YtllnleokjcimhaaDoorW.PrintWords Go.Proofs.YtllnleokjcimhaaDoorW.PrintLast Go.Proofs.YtllnleokjcimhaaDoorW.PrintMore
set_option linter.unusedVariables false
set_option linter.unusedSimpArgs false
/-! ### letters and tokens -/
def letB (c : UInt8) : Bool := (97 ≤ c && c ≤ 122) || (65 ≤ c && c ≤ 90) || (48 ≤ c && c ≤ 57)
def marks : List UInt8 := [33, 35, 36, 37, 38, 39, 42, 43, 45, 46, 94, 95, 124, 126, 96]
def tokB (c : UInt8) : Bool := letB c || marks.contains c
def tokS (l : List UInt8) : Bool := !l.isEmpty && l.all tokB
theorem letter_sign (c : UInt8) : sign_letter.f (c.toNat : Int) = some (letB c) := by
  have := all_bytes (p := fun n => sign_letter.f (n : Int) = some (letB (UInt8.ofNat n))) (by decide +kernel) c
  simpa using this
theorem index_marks (c : UInt8) : ∃ n : Int, strings_IndexByte.f (⟨#[33, 35, 36, 37, 38, 39, 42, 43, 45, 46, 94, 95, 124, 126, 96]⟩ : ByteArray) (c.toNat : Int) = some n ∧ (n < 0 ↔ marks.contains c = false) := by
  refine ⟨_, rfl, ?_⟩
  have := all_bytes (p := fun n => (Lib.indexByte marks ((n : Int).toNat.toUInt8) < 0 ↔ marks.contains (UInt8.ofNat n) = false)) (by decide +kernel) c
  simpa [marks] using this
theorem token_loop (s : ByteArray) (hs : s.size ≤ 4611686018427387904) (l : List UInt8) : ∀ i, Sfx s i l → Ev (fun k => sign_Token.l0 k s (s.size : Int) i) (l.all tokB && !s.data.toList.isEmpty) := by
  induction l with
  | nil =>
    intro i h
    refine ev_one fun k => ?_
    simp only [sign_Token.l0]; rw [if_neg h.stop, tl, ne_nilB]; rfl
  | cons c l ih =>
    intro i h
    obtain ⟨n, hn, hn2⟩ := index_marks c
    by_cases hc : tokB c = true
    · refine ev_to _ (ev_rw (ih _ h.next) (by simp [List.all_cons, hc])) fun k => ?_
      simp only [sign_Token.l0]; rw [if_pos h.lt, if_pos h.ge, if_pos h.lt, h.bt, letter_sign, bind_some rfl, h.wrap hs]
      by_cases hl : letB c = true
      · rw [if_pos hl]
      · have hm : marks.contains c = true := by unfold tokB at hc; simpa [hl] using hc
        rw [if_neg hl, bind_some hn, if_neg (by rw [hn2, hm]; simp)]
    · refine ev_one fun k => ?_
      have hl : letB c = false := by unfold tokB at hc; simp at hc; exact hc.1
      have hm : marks.contains c = false := by unfold tokB at hc; simp [hl] at hc; simpa using hc
      simp only [sign_Token.l0]; rw [if_pos h.lt, if_pos h.ge, if_pos h.lt, h.bt, letter_sign, bind_some rfl, if_neg (by rw [hl]; simp), bind_some hn, if_pos (hn2.2 hm)]
      simp [List.all_cons, hc]
theorem token_sign (s : ByteArray) (hs : s.size ≤ 4611686018427387904) : Ev (fun k => sign_Token.f k s) (tokS s.data.toList) :=
  ev_rw (token_loop s hs _ 0 (Sfx.start s)) (by unfold tokS; exact Bool.and_comm _ _)
end Go.Proofs.YtllnleokjcimhaaDoor.Pure
namespace Go.Proofs.YtllnleokjcimhaaDoor.Pure
open Go.RowKit Go.Proofs.YtllnleokjcimhaaDoor.P Go.Proofs.YtllnleokjcimhaaDoorW.PrintWords Go.Proofs.YtllnleokjcimhaaDoorW.PrintLast Go.Proofs.YtllnleokjcimhaaDoorW.PrintMore
set_option linter.unusedVariables false
set_option linter.unusedSimpArgs false
def lowS (l : List UInt8) : List UInt8 := l.map lowB
theorem lower_sign (s : ByteArray) (hs : s.size ≤ 4611686018427387904) : sign_Lower.f s = some ⟨(lowS s.data.toList).toArray⟩ := by
  unfold sign_Lower.f; rw [if_pos (by omega)]; rfl
end Go.Proofs.YtllnleokjcimhaaDoor.Pure
namespace Go.Proofs.YtllnleokjcimhaaDoor.Pure
open Go.RowKit Go.Proofs.YtllnleokjcimhaaDoor.P Go.Proofs.YtllnleokjcimhaaDoorW.PrintWords Go.Proofs.YtllnleokjcimhaaDoorW.PrintLast Go.Proofs.YtllnleokjcimhaaDoorW.PrintMore
set_option linter.unusedVariables false
set_option linter.unusedSimpArgs false
/-! ### without blanks at both ends -/
def blankB (c : UInt8) : Bool := c == 32 || c == 9
def trimL (l : List UInt8) : List UInt8 := l.dropWhile blankB
def trimR (l : List UInt8) : List UInt8 := (l.reverse.dropWhile blankB).reverse
def trimB (l : List UInt8) : List UInt8 := trimR (trimL l)
theorem contains_blank : (fun c : UInt8 => [32, 9].contains c) = blankB := by
  funext c; unfold blankB; simp [List.contains, List.elem]
  cases h : c == 32 <;> cases h2 : c == 9 <;> simp_all
theorem trimR_snoc (l : List UInt8) (c : UInt8) : trimR (l ++ [c]) = if blankB c then trimR l else l ++ [c] := by
  unfold trimR
  rw [List.reverse_append]
  simp only [List.reverse_cons, List.reverse_nil, List.nil_append, List.singleton_append, List.dropWhile_cons]
  split <;> simp
theorem trimR_nil : trimR [] = [] := rfl
theorem trimL_cons (c : UInt8) (l : List UInt8) : trimL (c :: l) = if blankB c then trimL l else c :: l := by
  unfold trimL; rw [List.dropWhile_cons]
theorem trimR_cons (c : UInt8) (l : List UInt8) : trimR (c :: l) = if trimR l = [] then (if blankB c then [] else [c]) else c :: trimR l := by
  induction l using snoc_ind with
  | nil => 
    have := trimR_snoc [] c
    simp only [List.nil_append, trimR_nil] at this
    rw [this]; simp [trimR_nil]
  | snoc l d ih =>
    rw [show c :: (l ++ [d]) = (c :: l) ++ [d] from rfl, trimR_snoc, trimR_snoc]
    by_cases hd : blankB d = true
    · rw [if_pos hd, if_pos hd, ih]
    · rw [if_neg hd, if_neg hd, if_neg (by simp)]; rfl
theorem trimL_eq_nil (l : List UInt8) : trimL l = [] ↔ l.all blankB = true := by
  induction l with
  | nil => simp [trimL]
  | cons c l ih => rw [trimL_cons]; by_cases h : blankB c = true <;> simp [h, ih]
theorem trimR_eq_nil (l : List UInt8) : trimR l = [] ↔ l.all blankB = true := by
  induction l with
  | nil => simp [trimR]
  | cons c l ih => rw [trimR_cons]; by_cases h : blankB c = true <;> by_cases h2 : trimR l = [] <;> simp_all
theorem trim_swap (l : List UInt8) : trimL (trimR l) = trimR (trimL l) := by
  induction l with
  | nil => rfl
  | cons c l ih =>
    rw [trimR_cons, trimL_cons]
    by_cases h2 : trimR l = []
    · rw [if_pos h2]
      have h3 := (trimR_eq_nil l).1 h2
      have h4 := (trimL_eq_nil l).2 h3
      by_cases h : blankB c = true
      · rw [if_pos h, if_pos h, h4]; rfl
      · rw [if_neg h, if_neg h, trimR_cons, if_pos h2, if_neg h, trimL_cons, if_neg h]
    · rw [if_neg h2]
      by_cases h : blankB c = true
      · rw [if_pos h, trimL_cons, if_pos h]; exact ih
      · rw [if_neg h, trimL_cons, if_neg h, trimR_cons, if_neg h2]
theorem trim_sign (s : ByteArray) (hs : s.size ≤ 4611686018427387904) : sign_Trim.f s = some ⟨(trimB s.data.toList).toArray⟩ := by
  unfold sign_Trim.f Lib.trimS Lib.trimLeftS Lib.trimRightS
  rw [if_pos (by omega), contains_blank]
  unfold trimB
  rw [← trim_swap]
  rfl
end Go.Proofs.YtllnleokjcimhaaDoor.Pure
