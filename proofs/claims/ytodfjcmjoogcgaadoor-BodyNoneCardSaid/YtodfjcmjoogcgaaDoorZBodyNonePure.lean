/-
  The plain law: what the functions of 'pantry' that this statement reaches compute, as lists and numbers, answers as the statement says.
-/
import Derived.Test.YtodfjcmjoogcgaaDoorWWords
import Derived.Test.YtodfjcmjoogcgaaDoorWLast
import Derived.Test.YtodfjcmjoogcgaaDoorWMore
import Derived.Lib.SlTrimSet
import Derived.Lib.Strings
import Derived.Test.YtodfjcmjoogcgaaDoorZBodyNoneHelp
import Derived.Test.YtodfjcmjoogcgaaDoorZBodyNonePx7
import Derived.Test.YtodfjcmjoogcgaaDoorZBodyNonePx9
import Derived.Test.YtodfjcmjoogcgaaDoorZBodyNonePx8
import Derived.Test.YtodfjcmjoogcgaaDoorZBodyNonePx0
import Derived.Test.YtodfjcmjoogcgaaDoorZBodyNonePx2
import Derived.Test.YtodfjcmjoogcgaaDoorZBodyNonePx6
import Derived.Test.YtodfjcmjoogcgaaDoorZBodyNonePx13
import Derived.Test.YtodfjcmjoogcgaaDoorZBodyNonePx15
namespace Go.Proofs.YtodfjcmjoogcgaaDoor.Pure
open Go.RowKit Go.Proofs.YtodfjcmjoogcgaaDoorW.PrintWords Go.Proofs.YtodfjcmjoogcgaaDoorW.PrintLast Go.Proofs.YtodfjcmjoogcgaaDoorW.PrintMore
set_option linter.unusedVariables false
set_option linter.unusedSimpArgs false
/-! ### numbers -/
theorem wrap_id {x : Int} (h1 : -9223372036854775808 ≤ x) (h2 : x ≤ 9223372036854775807) : wrap64 x = x := by unfold wrap64; omega
theorem tl (s : ByteArray) : s.toList = s.data.toList := Lib.toList_data s
theorem sz (s : ByteArray) : s.size = s.data.toList.length := Lib.size_eq s
theorem mk_data (l : List UInt8) : (⟨l.toArray⟩ : ByteArray).data.toList = l := rfl
theorem mk_size (l : List UInt8) : (⟨l.toArray⟩ : ByteArray).size = l.length := by rw [sz]
theorem ne_nilB (l : List UInt8) : (l != []) = !l.isEmpty := by cases l <;> rfl
theorem snoc_ind {α : Type} {p : List α → Prop} (nil : p []) (snoc : ∀ l a, p l → p (l ++ [a])) (l : List α) : p l := by
  rw [← List.reverse_reverse l]
  induction l.reverse with
  | nil => exact nil
  | cons a l ih => rw [List.reverse_cons]; exact snoc _ _ ih
/-- What stands in s from i on. -/
structure Sfx (s : ByteArray) (i : Int) (l : List UInt8) : Prop where
  ge : 0 ≤ i
  le : i + l.length = s.size
  eq : s.data.toList.drop i.toNat = l
theorem Sfx.start (s : ByteArray) : Sfx s 0 s.data.toList := ⟨by omega, by rw [sz]; omega, rfl⟩
theorem Sfx.stop {s : ByteArray} {i : Int} (h : Sfx s i []) : ¬ i < (s.size : Int) := by have := h.le; simp at this; omega
theorem Sfx.last {s : ByteArray} {i : Int} (h : Sfx s i []) : i = (s.size : Int) := by have := h.le; simp at this; omega
theorem Sfx.lt {s : ByteArray} {i : Int} {c : UInt8} {l : List UInt8} (h : Sfx s i (c :: l)) : i < (s.size : Int) := by have := h.le; simp at this; omega
theorem Sfx.at_ {s : ByteArray} {i : Int} {c : UInt8} {l : List UInt8} (h : Sfx s i (c :: l)) : s.data.toList[i.toNat]? = some c := by
  have := congrArg (·[0]?) h.eq
  simpa [List.getElem?_drop] using this
theorem bt_of {s : ByteArray} {i : Int} {c : UInt8} (h : s.data.toList[i.toNat]? = some c) : bt s i = (c.toNat : Int) := by
  have hl : i.toNat < s.size := by rw [sz]; exact (List.getElem?_eq_some_iff.1 h).1
  unfold bt
  rw [dif_pos hl]
  have h2 := (List.getElem?_eq_some_iff.1 h).2
  have : s[i.toNat]'hl = c := by rw [← h2]; rfl
  rw [this]
theorem Sfx.bt {s : ByteArray} {i : Int} {c : UInt8} {l : List UInt8} (h : Sfx s i (c :: l)) : bt s i = (c.toNat : Int) := bt_of h.at_
theorem Sfx.next {s : ByteArray} {i : Int} {c : UInt8} {l : List UInt8} (h : Sfx s i (c :: l)) : Sfx s (i + 1) l := by
  have h0 := h.ge
  refine ⟨by omega, by have := h.le; simp at this; omega, ?_⟩
  have := congrArg List.tail h.eq
  rw [List.tail_drop, List.tail_cons] at this
  rw [show (i + 1).toNat = i.toNat + 1 from by omega]; exact this
theorem Sfx.wrap {s : ByteArray} {i : Int} {c : UInt8} {l : List UInt8} (h : Sfx s i (c :: l)) (hs : s.size ≤ 4611686018427387904) : wrap64 (i + 1) = i + 1 :=
  wrap_id (by have := h.ge; omega) (by have := h.lt; omega)
theorem Sfx.tail {s : ByteArray} {i : Int} {l : List UInt8} (h : Sfx s i l) : (s.extract i.toNat s.size).data.toList = l := by
  rw [Lib.extract_data, h.eq, List.take_of_length_le]
  have := h.le; have := h.ge; omega
theorem Sfx.drop {s : ByteArray} {i : Int} {l m : List UInt8} (h : Sfx s i (l ++ m)) : Sfx s (i + l.length) m := by
  have h0 := h.ge; have h1 := h.le
  simp at h1
  refine ⟨by omega, by omega, ?_⟩
  rw [show (i + (l.length : Int)).toNat = i.toNat + l.length from by omega, ← List.drop_drop, h.eq, List.drop_left]
/-! ### rounds -/
theorem ev_mk {α : Type} {g : Nat → Option α} {r : α} (K : Nat) (h : ∀ k, g (k + K) = some r) : Ev g r :=
  ⟨K, fun k hk => by obtain ⟨m, rfl⟩ : ∃ m, k = m + K := ⟨k - K, by omega⟩; exact h m⟩
theorem ev_now {α : Type} {g : Nat → Option α} {r : α} (h : ∀ k, g k = some r) : Ev g r := ⟨0, fun k _ => h k⟩
theorem ev_one {α : Type} {g : Nat → Option α} {r : α} (h : ∀ k, g (k + 1) = some r) : Ev g r := ev_mk 1 h
theorem ev_to {α : Type} {g : Nat → Option α} {r : α} (f : Nat → Option α) (k : Ev f r) (h : ∀ k, g (k + 1) = f k) : Ev g r := Ev.step h k
theorem ev_eq {α : Type} {g : Nat → Option α} {r : α} (f : Nat → Option α) (k : Ev f r) (h : ∀ k, g k = f k) : Ev g r := Ev.congr h k
theorem ev_bind {α β : Type} {g : Nat → Option α} {f : Nat → α → Option β} {a : α} {r : β} (h : Ev g a) (k : Ev (fun n => f n a) r) : Ev (fun n => (g n).bind (f n)) r := Ev.bind h k
theorem ev_rw {α : Type} {g : Nat → Option α} {r r' : α} (h : Ev g r) (e : r = r') : Ev g r' := e ▸ h
theorem bind_some {α β : Type} {a : α} {x : Option α} {f : α → Option β} (h : x = some a) : x.bind f = f a := by rw [h]; rfl
end Go.Proofs.YtodfjcmjoogcgaaDoor.Pure
namespace Go.Proofs.YtodfjcmjoogcgaaDoor.Pure
open Go.RowKit Go.Proofs.YtodfjcmjoogcgaaDoor.P Go.Proofs.YtodfjcmjoogcgaaDoorW.PrintWords Go.Proofs.YtodfjcmjoogcgaaDoorW.PrintLast Go.Proofs.YtodfjcmjoogcgaaDoorW.PrintMore
set_option linter.unusedVariables false
set_option linter.unusedSimpArgs false
def lowS (l : List UInt8) : List UInt8 := l.map lowB
theorem lower_sign (s : ByteArray) (hs : s.size ≤ 4611686018427387904) : sign_Lower.f s = some ⟨(lowS s.data.toList).toArray⟩ := by
  unfold sign_Lower.f; rw [if_pos (by omega)]; rfl
end Go.Proofs.YtodfjcmjoogcgaaDoor.Pure
namespace Go.Proofs.YtodfjcmjoogcgaaDoor.Pure
open Go.RowKit Go.Proofs.YtodfjcmjoogcgaaDoor.P Go.Proofs.YtodfjcmjoogcgaaDoorW.PrintWords Go.Proofs.YtodfjcmjoogcgaaDoorW.PrintLast Go.Proofs.YtodfjcmjoogcgaaDoorW.PrintMore
set_option linter.unusedVariables false
set_option linter.unusedSimpArgs false
/-- Two texts that are the same but for letters. -/
def lowEq (a b : ByteArray) : Bool := lowS a.data.toList == lowS b.data.toList
theorem same_sign (a b : ByteArray) (ha : a.size ≤ 4611686018427387904) (hb : b.size ≤ 4611686018427387904) : sign_Same.f a b = some (lowEq a b) := by
  unfold sign_Same.f
  rw [bind_some (lower_sign a ha), bind_some (lower_sign b hb), tl, tl]
  rfl
theorem anyO_some {α : Type} (p : α → Option Bool) (q : α → Bool) : ∀ l : List α, (∀ x ∈ l, p x = some (q x)) → anyO p l = some (l.any q)
  | [], _ => rfl
  | x :: l, h => by
    rw [anyO, bind_some (h x (by simp)), List.any_cons]
    cases q x with
    | true => rfl
    | false => rw [if_neg (by decide), Bool.false_or]; exact anyO_some p q l (fun y hy => h y (by simp [hy]))
/-- Fields that can be gone through with. -/
def FOk (l : List S59) : Prop := l.length ≤ 1000 ∧ ∀ x ∈ l, x.f0.size ≤ 100000 ∧ x.f1.size ≤ 100000
theorem named_some (a0 a1 : ByteArray) (l : List ByteArray) (ha : a0.size ≤ 4611686018427387904) (hl : ∀ x ∈ l, x.size ≤ 4611686018427387904) : field_Field_named.f a0 a1 l = some (l.any fun n => lowEq n a0) :=
  anyO_some _ _ l (fun x hx => same_sign x a0 (hl x hx) ha)
theorem rd_fld (l : List S59) (i : Nat) (h : i < l.length) : rd_T59 l (i : Int) = l[i] := by
  simp [rd_T59, List.getD, h]
theorem rd_str (l : List ByteArray) (i : Nat) (h : i < l.length) : rdOf ByteArray.empty l (i : Int) = l[i] := by
  simp [rdOf, List.getD, h]
theorem wrap_nat (i : Nat) (h : i < 4611686018427387904) : wrap64 ((i : Int) + 1) = ((i + 1 : Nat) : Int) := by
  rw [wrap_id (by omega) (by omega)]; omega
end Go.Proofs.YtodfjcmjoogcgaaDoor.Pure
namespace Go.Proofs.YtodfjcmjoogcgaaDoor.Pure
open Go.RowKit Go.Proofs.YtodfjcmjoogcgaaDoor.P Go.Proofs.YtodfjcmjoogcgaaDoorW.PrintWords Go.Proofs.YtodfjcmjoogcgaaDoorW.PrintLast Go.Proofs.YtodfjcmjoogcgaaDoorW.PrintMore
set_option linter.unusedVariables false
set_option linter.unusedSimpArgs false
/-! ### without blanks at both ends -/
def blankB (c : UInt8) : Bool := c == 32 || c == 9
def trimL (l : List UInt8) : List UInt8 := l.dropWhile blankB
def trimR (l : List UInt8) : List UInt8 := (l.reverse.dropWhile blankB).reverse
def trimB (l : List UInt8) : List UInt8 := trimR (trimL l)
theorem contains_blank : (fun c : UInt8 => [32, 9].contains c) = blankB := by
  funext c; unfold blankB; simp [List.contains, List.elem]
  cases h : c == 32 <;> cases h2 : c == 9 <;> simp_all
theorem trimR_snoc (l : List UInt8) (c : UInt8) : trimR (l ++ [c]) = if blankB c then trimR l else l ++ [c] := by
  unfold trimR
  rw [List.reverse_append]
  simp only [List.reverse_cons, List.reverse_nil, List.nil_append, List.singleton_append, List.dropWhile_cons]
  split <;> simp
theorem trimR_nil : trimR [] = [] := rfl
theorem trimL_cons (c : UInt8) (l : List UInt8) : trimL (c :: l) = if blankB c then trimL l else c :: l := by
  unfold trimL; rw [List.dropWhile_cons]
theorem trimR_cons (c : UInt8) (l : List UInt8) : trimR (c :: l) = if trimR l = [] then (if blankB c then [] else [c]) else c :: trimR l := by
  induction l using snoc_ind with
  | nil => 
    have := trimR_snoc [] c
    simp only [List.nil_append, trimR_nil] at this
    rw [this]; simp [trimR_nil]
  | snoc l d ih =>
    rw [show c :: (l ++ [d]) = (c :: l) ++ [d] from rfl, trimR_snoc, trimR_snoc]
    by_cases hd : blankB d = true
    · rw [if_pos hd, if_pos hd, ih]
    · rw [if_neg hd, if_neg hd, if_neg (by simp)]; rfl
theorem trimL_eq_nil (l : List UInt8) : trimL l = [] ↔ l.all blankB = true := by
  induction l with
  | nil => simp [trimL]
  | cons c l ih => rw [trimL_cons]; by_cases h : blankB c = true <;> simp [h, ih]
theorem trimR_eq_nil (l : List UInt8) : trimR l = [] ↔ l.all blankB = true := by
  induction l with
  | nil => simp [trimR]
  | cons c l ih => rw [trimR_cons]; by_cases h : blankB c = true <;> by_cases h2 : trimR l = [] <;> simp_all
theorem trim_swap (l : List UInt8) : trimL (trimR l) = trimR (trimL l) := by
  induction l with
  | nil => rfl
  | cons c l ih =>
    rw [trimR_cons, trimL_cons]
    by_cases h2 : trimR l = []
    · rw [if_pos h2]
      have h3 := (trimR_eq_nil l).1 h2
      have h4 := (trimL_eq_nil l).2 h3
      by_cases h : blankB c = true
      · rw [if_pos h, if_pos h, h4]; rfl
      · rw [if_neg h, if_neg h, trimR_cons, if_pos h2, if_neg h, trimL_cons, if_neg h]
    · rw [if_neg h2]
      by_cases h : blankB c = true
      · rw [if_pos h, trimL_cons, if_pos h]; exact ih
      · rw [if_neg h, trimL_cons, if_neg h, trimR_cons, if_neg h2]
theorem trim_sign (s : ByteArray) (hs : s.size ≤ 4611686018427387904) : sign_Trim.f s = some ⟨(trimB s.data.toList).toArray⟩ := by
  unfold sign_Trim.f Lib.trimS Lib.trimLeftS Lib.trimRightS
  rw [if_pos (by omega), contains_blank]
  unfold trimB
  rw [← trim_swap]
  rfl
theorem trimB_length (l : List UInt8) : (trimB l).length ≤ l.length := by
  have a : ∀ l : List UInt8, (trimL l).length ≤ l.length := fun l => by
    induction l with
    | nil => simp [trimL]
    | cons c l ih => rw [trimL_cons]; split <;> simp; omega
  have b : ∀ l : List UInt8, (trimR l).length ≤ l.length := fun l => by
    induction l with
    | nil => simp [trimR]
    | cons c l ih => 
      rw [trimR_cons]
      by_cases h1 : trimR l = [] <;> by_cases h2 : blankB c = true <;> simp [h1, h2] <;> omega
  exact Nat.le_trans (b _) (a _)
/-- Nothing is left to trim. -/
theorem trimB_idem (l : List UInt8) : trimB (trimB l) = trimB l := by
  have a : ∀ l : List UInt8, trimL (trimL l) = trimL l := fun l => by
    induction l with
    | nil => rfl
    | cons c l ih =>
      rw [trimL_cons]
      by_cases h : blankB c = true
      · rw [if_pos h, ih]
      · rw [if_neg h, trimL_cons, if_neg h]
  have b : ∀ l : List UInt8, trimR (trimR l) = trimR l := fun l => by
    induction l with
    | nil => rfl
    | cons c l ih =>
      rw [trimR_cons]
      by_cases h2 : trimR l = []
      · rw [if_pos h2]
        by_cases h : blankB c = true
        · rw [if_pos h]; rfl
        · rw [if_neg h, trimR_cons, if_pos (by rfl), if_neg h]
      · rw [if_neg h2, trimR_cons, ih, if_neg h2]
  unfold trimB
  rw [trim_swap, b, a]
end Go.Proofs.YtodfjcmjoogcgaaDoor.Pure
namespace Go.Proofs.YtodfjcmjoogcgaaDoor.Pure
open Go.RowKit Go.Proofs.YtodfjcmjoogcgaaDoor.P Go.Proofs.YtodfjcmjoogcgaaDoorW.PrintWords Go.Proofs.YtodfjcmjoogcgaaDoorW.PrintLast Go.Proofs.YtodfjcmjoogcgaaDoorW.PrintMore
set_option linter.unusedVariables false
set_option linter.unusedSimpArgs false
/-! ### a list's elements: a machine that knows whether it stands in quotes, and behind a backslash -/
def nq (q sk : Bool) (c : UInt8) : Bool := if sk then q else if q && c == 92 then q else if c == 34 then !q else q
def ns (q sk : Bool) (c : UInt8) : Bool := if sk then false else q && c == 92
def segs : Bool → Bool → List UInt8 → List UInt8 → List (List UInt8)
  | _, _, cur, [] => [cur]
  | q, sk, cur, c :: l => if c = 44 ∧ q = false then cur :: segs false false [] l else segs (nq q sk c) (ns q sk c) (cur ++ [c]) l
def mkb (l : List UInt8) : ByteArray := ⟨l.toArray⟩
def keep (l : List (List UInt8)) : List ByteArray := ((l.map trimB).filter fun e => !e.isEmpty).map mkb
/-- What List tells. -/
def elems (l : List UInt8) : List ByteArray := keep (segs false false [] l)
def endM : Bool → Bool → List UInt8 → Nat
  | _, _, [] => 0
  | q, sk, c :: l => if c = 44 ∧ q = false then 0 else 1 + endM (nq q sk c) (ns q sk c) l
theorem endM_le (l : List UInt8) : ∀ q sk, endM q sk l ≤ l.length := by
  induction l with
  | nil => intro q sk; simp [endM]
  | cons c l ih =>
    intro q sk; rw [endM]; split
    · omega
    · have := ih (nq q sk c) (ns q sk c); simp; omega
theorem keep_cons (a : List UInt8) (l : List (List UInt8)) : keep (a :: l) = if (trimB a).isEmpty then keep l else mkb (trimB a) :: keep l := by
  unfold keep; simp only [List.map_cons, List.filter_cons]
  by_cases h : (trimB a).isEmpty = true <;> simp [h]
theorem keep_nil : keep [] = [] := rfl
theorem segs_split (l : List UInt8) : ∀ q sk cur, segs q sk cur l = (cur ++ l.take (endM q sk l)) :: (if endM q sk l < l.length then segs false false [] (l.drop (endM q sk l + 1)) else []) := by
  induction l with
  | nil => intro q sk cur; simp [segs, endM]
  | cons c l ih =>
    intro q sk cur
    rw [segs, endM]
    by_cases h : c = 44 ∧ q = false
    · rw [if_pos h, if_pos h]; simp
    · rw [if_neg h, if_neg h, ih]
      rw [Nat.add_comm 1 (endM _ _ l)]
      simp
theorem b_eq (c : UInt8) (n : Nat) (hn : n < 256) : (c.toNat : Int) = (n : Int) ↔ c = UInt8.ofNat n := by
  constructor
  · intro h; apply UInt8.toNat_inj.1; rw [UInt8.toNat_ofNat']; omega
  · rintro rfl; rw [UInt8.toNat_ofNat']; omega
theorem c44 (c : UInt8) : (c.toNat : Int) = 44 ↔ c = 44 := b_eq c 44 (by omega)
theorem e34 (c : UInt8) : (c.toNat : Int) = 34 ↔ c = 34 := b_eq c 34 (by omega)
theorem e92 (c : UInt8) : (c.toNat : Int) = 92 ↔ c = 92 := b_eq c 92 (by omega)
theorem e92b (c : UInt8) : ((c.toNat : Int) == 92) = (c == 92) := by rw [Bool.eq_iff_iff]; simp [e92]
theorem end_loop (s : ByteArray) (hs : s.size ≤ 140737488351232) (n : Nat) : ∀ l, l.length ≤ n → ∀ i q, Sfx s i l → Ev (fun k => sign_end.l0 k s q i) (i + endM q false l) := by
  induction n with
  | zero =>
    intro l hl i q h
    have : l = [] := List.length_eq_zero_iff.1 (by omega)
    subst this
    refine ev_one fun k => ?_
    simp only [sign_end.l0]; rw [if_neg h.stop, endM]; have := h.last; congr 1; omega
  | succ n ih =>
    intro l hl i q h
    match l, h, hl with
    | [], h, _ =>
      refine ev_one fun k => ?_
      simp only [sign_end.l0]; rw [if_neg h.stop, endM]; have := h.last; congr 1; omega
    | c :: l, h, hl =>
      simp at hl
      by_cases h1 : c = 34
      · refine ev_to _ (ev_rw (ih l hl (i + 1) (!q) h.next) ?_) fun k => ?_
        · rw [endM, if_neg (by subst h1; intro x; exact absurd x.1 (by decide))]
          have e1 : nq q false c = !q := by subst h1; cases q <;> rfl
          have e2 : ns q false c = false := by subst h1; cases q <;> rfl
          rw [e1, e2]; omega
        · simp only [sign_end.l0]; rw [if_pos h.lt, if_pos h.ge, h.bt, if_pos ((e34 c).2 h1), h.wrap (by omega)]
      · cases q with
        | true =>
          refine ev_to (fun k => sign_end.j1 k s true i (c == 92)) ?_ fun k => by
            simp only [sign_end.l0]; rw [if_pos h.lt, if_pos h.ge, h.bt, if_neg (fun x => h1 ((e34 c).1 x)), if_pos trivial, e92b]
          by_cases h2 : c = 92
          · have e1 : nq true false c = true := by subst h2; rfl
            have e2 : ns true false c = true := by subst h2; rfl
            have e0 : endM true false (c :: l) = 1 + endM true true l := by rw [endM, if_neg (by simp), e1, e2]
            rw [e0]
            match l, h, hl with
            | [], h, _ =>
              refine ev_mk 2 fun k => ?_
              have hl2 := h.next.last
              have hg := h.ge
              simp only [sign_end.j1]; rw [h2, if_pos (by rfl), h.wrap (by omega), wrap_id (by omega) (by omega)]
              simp only [sign_end.l0]; rw [if_neg (by omega), endM]; congr 1; omega
            | d :: l, h, hl =>
              simp at hl
              refine ev_to _ (ev_rw (ih l (by omega) (i + 1 + 1) true h.next.next) ?_) fun k => ?_
              · rw [endM, if_neg (by simp)]
                have e3 : nq true true d = true := rfl
                have e4 : ns true true d = false := rfl
                rw [e3, e4]; omega
              · simp only [sign_end.j1]; rw [h2, if_pos (by rfl), h.wrap (by omega), h.next.wrap (by omega)]
          · refine ev_to _ (ev_rw (ih l hl (i + 1) true h.next) ?_) fun k => ?_
            · rw [endM, if_neg (by simp)]
              have e1 : nq true false c = true := by simp [nq, h1, h2]
              have e2 : ns true false c = false := by simp [ns, h2]
              rw [e1, e2]; omega
            · simp only [sign_end.j1]; rw [if_neg (by simpa using h2), if_pos trivial, h.wrap (by omega)]
        | false =>
          refine ev_to (fun k => sign_end.j1 k s false i false) ?_ fun k => by
            simp only [sign_end.l0]; rw [if_pos h.lt, if_pos h.ge, h.bt, if_neg (fun x => h1 ((e34 c).1 x)), if_neg (by simp)]
          by_cases h2 : c = 44
          · refine ev_one fun k => ?_
            simp only [sign_end.j1]; rw [if_neg (by simp), if_neg (by simp), if_pos h.ge, if_pos h.lt, h.bt, if_pos ((c44 c).2 h2), endM, if_pos ⟨h2, rfl⟩]; simp
          · refine ev_to _ (ev_rw (ih l hl (i + 1) false h.next) ?_) fun k => ?_
            · rw [endM, if_neg (fun x => h2 x.1)]
              have e1 : nq false false c = false := by simp [nq, h1]
              have e2 : ns false false c = false := by simp [ns]
              rw [e1, e2]; omega
            · simp only [sign_end.j1]; rw [if_neg (by simp), if_neg (by simp), if_pos h.ge, if_pos h.lt, h.bt, if_neg (fun x => h2 ((c44 c).1 x)), h.wrap (by omega)]
theorem end_sign (s : ByteArray) (hs : s.size ≤ 140737488351232) : Ev (fun k => sign_end.f k s) (endM false false s.data.toList : Int) :=
  ev_rw (end_loop s hs _ _ (Nat.le_refl _) 0 false (Sfx.start s)) (by omega)
theorem list_loop (n : Nat) : ∀ (s : ByteArray), s.data.toList.length ≤ n → s.size ≤ 140737488351232 → ∀ out : List ByteArray, out.length + s.size < 8796093022208 → Ev (fun k => sign_List.l0 k s out) (out ++ elems s.data.toList) := by
  induction n with
  | zero =>
    intro s hl hs out ho
    have hnil : s.data.toList = [] := List.length_eq_zero_iff.1 (by omega)
    refine ev_one fun k => ?_
    simp only [sign_List.l0]; rw [tl, if_pos hnil, hnil]; simp [elems, segs, keep, trimB, trimL, trimR]
  | succ n ih =>
    intro s hl hs out ho
    by_cases hnil : s.data.toList = []
    · refine ev_one fun k => ?_
      simp only [sign_List.l0]; rw [tl, if_pos hnil, hnil]; simp [elems, segs, keep, trimB, trimL, trimR]
    have hq := sz s
    have hpos : 0 < s.data.toList.length := List.length_pos_iff.2 hnil
    have hle := endM_le s.data.toList false false
    have hsp := segs_split s.data.toList false false []
    have hend := end_sign s hs
    generalize hE : endM false false s.data.toList = E at *
    have hmn : mn (wrap64 ((E : Int) + 1)) (s.size : Int) = ((min (E + 1) s.size : Nat) : Int) := by
      rw [wrap_id (by omega) (by omega)]; unfold mn; split <;> omega
    have hcut : (s.extract 0 (E : Int).toNat).data.toList = s.data.toList.take E := by rw [Lib.extract_data]; simp
    have hcs : (s.extract 0 (E : Int).toNat).size ≤ 4611686018427387904 := by rw [sz, hcut, List.length_take]; omega
    have htr := trim_sign _ hcs
    rw [hcut] at htr
    have hrest : (s.extract ((min (E + 1) s.size : Nat) : Int).toNat s.size).data.toList = s.data.toList.drop (E + 1) := by
      rw [Lib.extract_data, Int.toNat_natCast]
      by_cases hlt : E + 1 ≤ s.size
      · rw [show min (E + 1) s.size = E + 1 from by omega, List.take_of_length_le (by rw [List.length_drop]; omega)]
      · rw [show min (E + 1) s.size = s.size from by omega, List.drop_of_length_le (by omega), List.drop_of_length_le (by omega)]; simp
    have hrs : (s.extract ((min (E + 1) s.size : Nat) : Int).toNat s.size).size = s.size - (E + 1) := by rw [sz, hrest, List.length_drop, hq]
    have hel : elems s.data.toList = (if (trimB (s.data.toList.take E)).isEmpty then [] else [mkb (trimB (s.data.toList.take E))]) ++ elems (s.data.toList.drop (E + 1)) := by
      unfold elems; rw [hsp, keep_cons, List.nil_append]
      by_cases hlt : E < s.data.toList.length
      · rw [if_pos hlt]; split <;> simp
      · rw [if_neg hlt, List.drop_of_length_le (by omega)]
        have : keep (segs false false [] []) = [] := rfl
        rw [this]; split <;> simp [keep_nil]
    have hT : ∀ o : List ByteArray, o.length ≤ out.length + 1 → Ev (fun k => sign_List.l0 k (s.extract ((min (E + 1) s.size : Nat) : Int).toNat s.size) o) (o ++ elems (s.data.toList.drop (E + 1))) := fun o ho2 => by
      have := ih (s.extract ((min (E + 1) s.size : Nat) : Int).toNat s.size) (by rw [hrest, List.length_drop]; omega) (by rw [hrs]; omega) o (by rw [hrs]; omega)
      rw [hrest] at this; exact this
    refine ev_to (fun k => (sign_end.f k s).bind fun t101 => (if 0 ≤ t101 then (if t101 ≤ (s.size : Int) then ((sign_Trim.f (s.extract 0 (t101 : Int).toNat)).bind fun t102 => (if t102.toList = ([] : List UInt8) then (if 0 ≤ (mn (wrap64 (t101 + 1)) (s.size : Int)) then (if (mn (wrap64 (t101 + 1)) (s.size : Int)) ≤ (s.size : Int) then (sign_List.l0 k (s.extract ((mn (wrap64 (t101 + 1)) (s.size : Int)) : Int).toNat s.size) out) else (none)) else (none)) else (if out.length < 8796093022208 then (if 0 ≤ (mn (wrap64 (t101 + 1)) (s.size : Int)) then (if (mn (wrap64 (t101 + 1)) (s.size : Int)) ≤ (s.size : Int) then (sign_List.l0 k (s.extract ((mn (wrap64 (t101 + 1)) (s.size : Int)) : Int).toNat s.size) (out ++ [t102])) else (none)) else (none)) else (none)))) else (none)) else (none))) ?_ fun k => by
        simp only [sign_List.l0]; rw [tl, if_neg hnil]
    refine ev_bind hend ?_
    rw [hel]
    by_cases he : (trimB (s.data.toList.take E)).isEmpty = true
    · refine ev_eq _ (ev_rw (hT out (by omega)) (by rw [if_pos he]; rfl)) fun k => ?_
      rw [if_pos (by omega), if_pos (by omega), bind_some htr, hmn, if_pos (by rw [tl, mk_data]; exact List.isEmpty_iff.1 he), if_pos (by omega), if_pos (by omega)]
    · refine ev_eq _ (ev_rw (hT (out ++ [mkb (trimB (s.data.toList.take E))]) (by simp)) (by rw [if_neg he]; simp)) fun k => ?_
      rw [if_pos (by omega), if_pos (by omega), bind_some htr, hmn, if_neg (by rw [tl, mk_data]; intro hx; exact he (by rw [hx]; rfl)), if_pos (by omega), if_pos (by omega), if_pos (by omega)]; rfl
theorem list_sign (s : ByteArray) (hs : s.size ≤ 8796093000000) : Ev (fun k => sign_List.f k s) (elems s.data.toList) :=
  ev_rw (list_loop _ s (Nat.le_refl _) (by omega) [] (by simp; omega)) (by simp)
/-! ### two lists of texts -/
theorem keep_length (l : List (List UInt8)) : (keep l).length ≤ l.length := by
  unfold keep; rw [List.length_map]
  exact Nat.le_trans (List.length_filter_le _ _) (by simp)
theorem segs_length (l : List UInt8) : ∀ q sk cur, (segs q sk cur l).length ≤ l.length + 1 := by
  induction l with
  | nil => intro q sk cur; simp [segs]
  | cons c l ih =>
    intro q sk cur; rw [segs]
    split
    · have := ih false false []; simp; omega
    · have := ih (nq q sk c) (ns q sk c) (cur ++ [c]); simp; omega
theorem elems_length (l : List UInt8) : (elems l).length ≤ l.length + 1 := Nat.le_trans (keep_length _) (segs_length _ _ _ _)
theorem keep_mem (L : List (List UInt8)) (e : ByteArray) (h : e ∈ keep L) : ∃ x ∈ L, e.data.toList = trimB x ∧ e.data.toList ≠ [] := by
  unfold keep at h
  obtain ⟨y, hy, rfl⟩ := List.mem_map.1 h
  obtain ⟨hy1, hy2⟩ := List.mem_filter.1 hy
  obtain ⟨x, hx, rfl⟩ := List.mem_map.1 hy1
  refine ⟨x, hx, rfl, ?_⟩
  intro hn
  have : trimB x = [] := hn
  rw [this] at hy2; simp at hy2
theorem segs_len (l : List UInt8) : ∀ q sk cur, ∀ x ∈ segs q sk cur l, x.length ≤ cur.length + l.length := by
  induction l with
  | nil => intro q sk cur x hx; simp [segs] at hx; subst hx; simp
  | cons c l ih =>
    intro q sk cur x hx
    rw [segs] at hx
    split at hx
    · rcases List.mem_cons.1 hx with rfl | hx
      · simp
      · have := ih false false [] x hx; simp at this ⊢; omega
    · have := ih _ _ _ x hx; simp at this ⊢; omega
theorem elems_size {l : List UInt8} {e : ByteArray} (h : e ∈ elems l) : e.size ≤ l.length ∧ e.data.toList ≠ [] ∧ trimB e.data.toList = e.data.toList := by
  obtain ⟨x, hx, he, hn⟩ := keep_mem _ _ h
  refine ⟨?_, hn, by rw [he, trimB_idem]⟩
  rw [sz, he]
  have h1 := trimB_length x
  have h2 := segs_len l false false [] x hx
  simp at h2
  omega
end Go.Proofs.YtodfjcmjoogcgaaDoor.Pure
namespace Go.Proofs.YtodfjcmjoogcgaaDoor.Pure
open Go.RowKit Go.Proofs.YtodfjcmjoogcgaaDoor.P Go.Proofs.YtodfjcmjoogcgaaDoorW.PrintWords Go.Proofs.YtodfjcmjoogcgaaDoorW.PrintLast Go.Proofs.YtodfjcmjoogcgaaDoorW.PrintMore
set_option linter.unusedVariables false
set_option linter.unusedSimpArgs false
/-- The values of a name. -/
def vals (n : ByteArray) (l : List S59) : List ByteArray := (l.filter fun f => lowEq n f.f0).map (·.f1)
/-- Texts, as one. -/
def joinC (l : List ByteArray) : List UInt8 := Lib.join (l.map (·.data.toList)) [44, 32]
theorem vals_length (n : ByteArray) (l : List S59) : (vals n l).length ≤ l.length := by
  unfold vals; rw [List.length_map]; exact List.length_filter_le _ _
theorem vals_mem {n : ByteArray} {l : List S59} {v : ByteArray} (h : v ∈ vals n l) : ∃ f ∈ l, f.f1 = v := by
  unfold vals at h
  obtain ⟨f, hf, rfl⟩ := List.mem_map.1 h
  exact ⟨f, (List.mem_filter.1 hf).1, rfl⟩
theorem vals_yes (a : ByteArray) (f : S59) (l : List S59) (h : lowEq a f.f0 = true) : vals a (f :: l) = f.f1 :: vals a l := by simp [vals, h]
theorem vals_no (a : ByteArray) (f : S59) (l : List S59) (h : ¬ lowEq a f.f0 = true) : vals a (f :: l) = vals a l := by simp [vals, h]
theorem all_loop (a : ByteArray) (ha : a.size ≤ 100000) (l : List S59) (hl : FOk l) (n : Nat) : ∀ (i : Nat) (out : List ByteArray), i + n = l.length → out.length + n ≤ 1000 → Ev (fun k => field_List_All.l0 k a out l (l.length : Int) (i : Int)) (out ++ vals a (l.drop i)) := by
  induction n with
  | zero =>
    intro i out hi ho
    refine ev_one fun k => ?_
    simp only [field_List_All.l0]
    rw [if_neg (by omega), List.drop_of_length_le (by omega)]
    simp [vals]
  | succ n ih =>
    intro i out hi ho
    have hlt : i < l.length := by omega
    obtain ⟨h0, h1⟩ := hl.2 l[i] (List.getElem_mem hlt)
    have hlen := hl.1
    rw [List.drop_eq_getElem_cons hlt]
    have hn := named_some l[i].f0 l[i].f1 [a] (by omega) (by intro x hx; simp at hx; subst hx; omega)
    simp only [List.any_cons, List.any_nil, Bool.or_false] at hn
    by_cases hb : lowEq a l[i].f0 = true
    · have e := vals_yes a l[i] (l.drop (i + 1)) hb
      rw [e]
      have := ih (i + 1) (out ++ [l[i].f1]) (by omega) (by simp; omega)
      rw [List.append_assoc, List.singleton_append] at this
      refine ev_to _ this fun k => ?_
      simp only [field_List_All.l0, rd_fld l i hlt]
      rw [if_pos (by omega), if_pos (by omega), if_pos (by omega), bind_some hn, if_pos hb, if_pos (by omega), wrap_nat i (by omega)]
    · have e := vals_no a l[i] (l.drop (i + 1)) hb
      rw [e]
      refine ev_to _ (ih (i + 1) out (by omega) (by omega)) fun k => ?_
      simp only [field_List_All.l0, rd_fld l i hlt]
      rw [if_pos (by omega), if_pos (by omega), if_pos (by omega), bind_some hn, if_neg hb, wrap_nat i (by omega)]
theorem all_some (a : ByteArray) (ha : a.size ≤ 100000) (l : List S59) (hl : FOk l) : Ev (fun k => field_List_All.f k l a) (vals a l) := by
  have := all_loop a ha l hl l.length 0 [] (by omega) (by have := hl.1; simp; omega)
  simp only [List.drop_zero, List.nil_append] at this
  exact this
theorem join_len (m : Nat) (sep : List UInt8) : ∀ l : List (List UInt8), (∀ x ∈ l, x.length ≤ m) → (Lib.join l sep).length ≤ l.length * (m + sep.length)
  | [], _ => by simp [Lib.join_nil]
  | x :: l, h => by
    rw [Lib.join_cons, List.length_append]
    have h1 := h x (by simp)
    have h2 : ∀ r : List (List UInt8), (∀ y ∈ r, y.length ≤ m) → (Lib.joinTail sep r).length ≤ r.length * (m + sep.length) := by
      intro r
      induction r with
      | nil => intro _; simp [Lib.joinTail]
      | cons y r ih =>
        intro hy
        have h3 := hy y (by simp)
        have h4 := ih (fun z hz => hy z (by simp [hz]))
        have e : Lib.joinTail sep (y :: r) = (sep ++ y) ++ Lib.joinTail sep r := by simp [Lib.joinTail]
        rw [e, List.length_append, List.length_append, List.length_cons, Nat.succ_mul]
        omega
    have h5 := h2 l (fun y hy => h y (by simp [hy]))
    rw [List.length_cons, Nat.succ_mul]
    omega
theorem joinC_len (l : List ByteArray) (n : Nat) (hn : l.length ≤ n) (h : ∀ x ∈ l, x.size ≤ 100000) : (joinC l).length ≤ n * 100002 := by
  have := join_len 100000 [44, 32] (l.map (·.data.toList)) (by intro x hx; obtain ⟨y, hy, rfl⟩ := List.mem_map.1 hx; have := h y hy; rw [sz] at this; exact this)
  rw [List.length_map] at this
  unfold joinC
  have h2 : l.length * (100000 + [44, 32].length) ≤ n * 100002 := Nat.mul_le_mul_right _ hn
  exact Nat.le_trans this h2
theorem vals_ok (a : ByteArray) (l : List S59) (hl : FOk l) : (vals a l).length ≤ 1000 ∧ ∀ x ∈ vals a l, x.size ≤ 100000 :=
  ⟨Nat.le_trans (vals_length a l) hl.1, fun x hx => by obtain ⟨f, hf, rfl⟩ := vals_mem hx; exact (hl.2 f hf).2⟩
theorem join_some (l : List ByteArray) (hn : l.length ≤ 1000) (h : ∀ x ∈ l, x.size ≤ 100000) : strings_Join.f l (⟨#[44, 32]⟩ : ByteArray) = some ⟨(joinC l).toArray⟩ := by
  unfold strings_Join.f
  have h2 := joinC_len l 1000 hn h
  unfold joinC at h2
  have e : (⟨#[44, 32]⟩ : ByteArray).data.toList = [44, 32] := rfl
  rw [if_pos ⟨by omega, by rw [e]; omega⟩]
  rfl
theorem get_some (a : ByteArray) (ha : a.size ≤ 100000) (l : List S59) (hl : FOk l) : Ev (fun k => field_List_Get.f k l a) (⟨(joinC (vals a l)).toArray⟩, !(vals a l).isEmpty) := by
  unfold field_List_Get.f
  refine ev_bind (all_some a ha l hl) (ev_now fun k => ?_)
  obtain ⟨h1, h2⟩ := vals_ok a l hl
  rw [bind_some (join_some _ h1 h2)]
  generalize vals a l = v
  cases v <;> simp
theorem elems_some (a : ByteArray) (ha : a.size ≤ 100000) (l : List S59) (hl : FOk l) : Ev (fun k => field_List_Elements.f k l a) (elems (joinC (vals a l))) := by
  unfold field_List_Elements.f
  refine ev_bind (get_some a ha l hl) ?_
  obtain ⟨h1, h2⟩ := vals_ok a l hl
  have h3 := joinC_len _ 1000 h1 h2
  have := list_sign (⟨(joinC (vals a l)).toArray⟩ : ByteArray) (by rw [mk_size]; omega)
  exact ev_bind this (ev_now fun k => rfl)
end Go.Proofs.YtodfjcmjoogcgaaDoor.Pure
namespace Go.Proofs.YtodfjcmjoogcgaaDoor.Pure
open Go.RowKit Go.Proofs.YtodfjcmjoogcgaaDoor.P Go.Proofs.YtodfjcmjoogcgaaDoorW.PrintWords Go.Proofs.YtodfjcmjoogcgaaDoorW.PrintLast Go.Proofs.YtodfjcmjoogcgaaDoorW.PrintMore
set_option linter.unusedVariables false
set_option linter.unusedSimpArgs false
theorem has_some (a w : ByteArray) (ha : a.size ≤ 100000) (hw : w.size ≤ 100000) (l : List S59) (hl : FOk l) : Ev (fun k => field_List_Has.f k l a w) ((elems (joinC (vals a l))).any fun e => lowEq e w) := by
  unfold field_List_Has.f
  refine ev_bind (elems_some a ha l hl) (ev_now fun k => ?_)
  obtain ⟨h1, h2⟩ := vals_ok a l hl
  have h3 := joinC_len _ 1000 h1 h2
  exact anyO_some _ _ _ (fun x hx => same_sign x w (by have := (elems_size hx).1; omega) (by omega))
end Go.Proofs.YtodfjcmjoogcgaaDoor.Pure
namespace Go.Proofs.YtodfjcmjoogcgaaDoor.Pure
open Go.RowKit Go.Proofs.YtodfjcmjoogcgaaDoor.P Go.Proofs.YtodfjcmjoogcgaaDoorW.PrintWords Go.Proofs.YtodfjcmjoogcgaaDoorW.PrintLast Go.Proofs.YtodfjcmjoogcgaaDoorW.PrintMore
set_option linter.unusedVariables false
set_option linter.unusedSimpArgs false
/-! ### numbers of digits -/
def digB (c : UInt8) : Bool := 48 ≤ c && c ≤ 57
def far : Int := 2147483648
def numL (a : Int) : List UInt8 → Option Int
  | [] => some a
  | c :: l => if digB c then numL (mn (10 * a + ((c.toNat : Int) - 48)) far) l else none
/-- What Number tells. -/
def numS (l : List UInt8) : Int × Bool := match numL 0 l with
  | some n => (n, !l.isEmpty)
  | none => (0, false)
theorem dig_lo (c : UInt8) (h : digB c = true) : 48 ≤ (c.toNat : Int) ∧ (c.toNat : Int) ≤ 57 := by
  unfold digB at h
  simp [UInt8.le_iff_toNat_le] at h
  omega
theorem dig_no (c : UInt8) (h : ¬ digB c = true) : (c.toNat : Int) < 48 ∨ 57 < (c.toNat : Int) := by
  unfold digB at h
  simp [UInt8.le_iff_toNat_le] at h
  omega
theorem number_loop (s : ByteArray) (hs : s.size ≤ 4611686018427387904) (l : List UInt8) : ∀ i a, Sfx s i l → 0 ≤ a → a ≤ far → Ev (fun k => sign_Number.l0 k s a (s.size : Int) i) (match numL a l with | some n => (n, !s.data.toList.isEmpty) | none => (0, false)) := by
  induction l with
  | nil =>
    intro i a h h0 h1
    refine ev_one fun k => ?_
    simp only [sign_Number.l0]; rw [if_neg h.stop, tl, ne_nilB]; rfl
  | cons c l ih =>
    intro i a h h0 h1
    have hf : far = 2147483648 := rfl
    by_cases hc : digB c = true
    · have hd := dig_lo c hc
      have hw : wrap64 (wrap64 (10 * a) + ((c.toNat : Int) - 48) % 256) = 10 * a + ((c.toNat : Int) - 48) := by
        rw [wrap_id (x := 10 * a) (by omega) (by omega), Int.emod_eq_of_lt (by omega) (by omega), wrap_id (by omega) (by omega)]
      refine ev_to _ (ev_rw (ih _ (mn (10 * a + ((c.toNat : Int) - 48)) far) h.next (by unfold mn; split <;> omega) (by unfold mn; split <;> omega)) (by rw [numL, if_pos hc])) fun k => ?_
      simp only [sign_Number.l0]; rw [if_pos h.lt, if_pos h.ge, if_pos h.lt, h.bt, if_neg (by omega), if_neg (by omega), hw, h.wrap hs]; rfl
    · have hd := dig_no c hc
      refine ev_one fun k => ?_
      simp only [sign_Number.l0]; rw [if_pos h.lt, if_pos h.ge, if_pos h.lt, h.bt, numL, if_neg hc]
      by_cases h48 : (c.toNat : Int) < 48
      · rw [if_pos h48]
      · rw [if_neg h48, if_pos (by omega)]
theorem number_sign (s : ByteArray) (hs : s.size ≤ 4611686018427387904) : Ev (fun k => sign_Number.f k s) (numS s.data.toList) :=
  ev_rw (number_loop s hs _ 0 0 (Sfx.start s) (by omega) (by unfold far; omega)) rfl
end Go.Proofs.YtodfjcmjoogcgaaDoor.Pure
namespace Go.Proofs.YtodfjcmjoogcgaaDoor.Pure
open Go.RowKit Go.Proofs.YtodfjcmjoogcgaaDoor.P Go.Proofs.YtodfjcmjoogcgaaDoorW.PrintWords Go.Proofs.YtodfjcmjoogcgaaDoorW.PrintLast Go.Proofs.YtodfjcmjoogcgaaDoorW.PrintMore
set_option linter.unusedVariables false
set_option linter.unusedSimpArgs false
def bCL : ByteArray := ⟨#[67, 111, 110, 116, 101, 110, 116, 45, 76, 101, 110, 103, 116, 104]⟩
def bTE : ByteArray := ⟨#[84, 114, 97, 110, 115, 102, 101, 114, 45, 69, 110, 99, 111, 100, 105, 110, 103]⟩
def bCh : ByteArray := ⟨#[99, 104, 117, 110, 107, 101, 100]⟩
/-- The length that elements say. -/
def lenL (last : Int) : List ByteArray → Int × Int × Int
  | [] => if last < 0 then (0, 0, 24) else if last > 2048 then (0, 0, 23) else (1, last, 0)
  | s :: l => if (numS s.data.toList).2 = true then (if last ≥ 0 then (if last = (numS s.data.toList).1 then lenL (numS s.data.toList).1 l else (0, 0, 24)) else lenL (numS s.data.toList).1 l) else (0, 0, 24)
/-- The frame that fields say; an error's number. -/
def frameP (minor : Int) (l : List S59) (other : Int) : Int × Int × Int :=
  if (vals bTE l).isEmpty = false then
    (if (vals bCL l).isEmpty = false ∨ minor = 0 ∨ (elems (joinC (vals bTE l))).length ≠ 1 ∨ ((elems (joinC (vals bTE l))).any fun e => lowEq e bCh) = false then (0, 0, 24) else (2, 0, 0))
  else if (vals bCL l).isEmpty = false then lenL (-1) (elems (joinC (vals bCL l))) else (other, 0, 0)
theorem len_loop (es : List ByteArray) (he : ∀ e ∈ es, e.size ≤ 4611686018427387904) (hl : es.length ≤ 4611686018427387000) (n : Nat) : ∀ (i : Nat) (last : Int), i + n = es.length → Ev (fun k => body_length.l0 k last es (es.length : Int) (i : Int)) (lenL last (es.drop i)) := by
  induction n with
  | zero =>
    intro i last hi
    refine ev_one fun k => ?_
    simp only [body_length.l0]
    rw [if_neg (by omega), List.drop_of_length_le (by omega)]
    unfold lenL
    split
    · rfl
    · split <;> rfl
  | succ n ih =>
    intro i last hi
    have hlt : i < es.length := by omega
    rw [List.drop_eq_getElem_cons hlt]
    obtain ⟨K1, hK1⟩ := number_sign es[i] (he _ (List.getElem_mem hlt))
    obtain ⟨K2, hK2⟩ := ih (i + 1) (numS es[i].data.toList).1 (by omega)
    refine ⟨K1 + K2 + 1, fun k hk => ?_⟩
    obtain ⟨k, rfl⟩ : ∃ m, k = m + 1 := ⟨k - 1, by omega⟩
    have q1 := hK1 k (by omega)
    have q2 := hK2 k (by omega)
    simp only [body_length.l0, rd_str es i hlt]
    simp only at q1 q2
    rw [if_pos (by omega), if_pos (by omega), if_pos (by omega), bind_some q1, wrap_nat i (by omega)]
    unfold lenL
    by_cases h : (numS es[i].data.toList).2 = true
    · rw [if_pos h, if_pos h]
      by_cases hg : last ≥ 0
      · rw [if_pos hg, if_pos hg]
        by_cases e : last = (numS es[i].data.toList).1
        · rw [if_pos e, if_pos e]; exact q2
        · rw [if_neg e, if_neg e]
      · rw [if_neg hg, if_neg hg]; exact q2
    · rw [if_neg h, if_neg h]
theorem elems_ok (a : ByteArray) (l : List S59) (hl : FOk l) : (elems (joinC (vals a l))).length ≤ 100002001 ∧ ∀ e ∈ elems (joinC (vals a l)), e.size ≤ 100002000 := by
  obtain ⟨h1, h2⟩ := vals_ok a l hl
  have h3 := joinC_len _ 1000 h1 h2
  refine ⟨Nat.le_trans (elems_length _) (by omega), fun e he => Nat.le_trans (elems_size he).1 (by omega)⟩
theorem length_some (l : List S59) (hl : FOk l) : Ev (fun k => body_length.f k l) (lenL (-1) (elems (joinC (vals bCL l)))) := by
  unfold body_length.f
  obtain ⟨h1, h2⟩ := elems_ok bCL l hl
  have := len_loop (elems (joinC (vals bCL l))) (fun e he => by have := h2 e he; omega) (by omega) (elems (joinC (vals bCL l))).length 0 (-1) (by omega)
  exact ev_bind (elems_some bCL (by decide) l hl) this
theorem of_some (minor other : Int) (l : List S59) (hl : FOk l) : Ev (fun k => body_of.f k minor l other) (frameP minor l other) := by
  unfold body_of.f
  refine ev_bind (get_some bCL (by decide) l hl) (ev_bind (get_some bTE (by decide) l hl) ?_)
  unfold frameP
  have hj : ∀ b : Bool, Ev (fun k => body_of.j0 k b) (if b = true then ((0, 0, 24) : Int × Int × Int) else (2, 0, 0)) := fun b => ev_one fun k => by
    simp only [body_of.j0]; split <;> rfl
  by_cases ht : (vals bTE l).isEmpty = true
  · simp only [ht, Bool.not_true, Bool.false_eq_true, if_false, Bool.true_eq_false]
    by_cases hc : (vals bCL l).isEmpty = true
    · simp only [hc, Bool.not_true, Bool.false_eq_true, if_false, Bool.true_eq_false]
      exact ev_now fun k => rfl
    · have hc : (vals bCL l).isEmpty = false := by simpa using hc
      simp only [hc, Bool.not_false, if_true]
      refine ev_bind (length_some l hl) (ev_now fun k => rfl)
  · have ht : (vals bTE l).isEmpty = false := by simpa using ht
    simp only [ht, Bool.not_false, if_true]
    by_cases hc : (vals bCL l).isEmpty = true
    · simp only [hc, Bool.not_true, Bool.false_eq_true, if_false, Bool.true_eq_false, false_or]
      by_cases hm : minor = 0
      · simp only [hm, if_true, true_or]
        exact hj true
      · simp only [hm, if_false, false_or]
        refine ev_bind (elems_some bTE (by decide) l hl) ?_
        by_cases hn : (elems (joinC (vals bTE l))).length = 1
        · have hn' : ((elems (joinC (vals bTE l))).length : Int) = 1 := by omega
          simp only [hn', if_true]
          refine ev_bind (has_some bTE bCh (by decide) (by decide) l hl) ?_
          simp only [hn, ne_eq, not_true, false_or]
          have := hj (!((elems (joinC (vals bTE l))).any fun e => lowEq e bCh))
          generalize ((elems (joinC (vals bTE l))).any fun e => lowEq e bCh) = b at *
          cases b <;> simpa using this
        · have hn' : ¬ ((elems (joinC (vals bTE l))).length : Int) = 1 := by omega
          simp only [hn', if_false, hn, ne_eq, not_false_eq_true, true_or, if_true]
          exact hj true
    · have hc : (vals bCL l).isEmpty = false := by simpa using hc
      simp only [hc, Bool.not_false, if_true, true_or]
      exact hj true
end Go.Proofs.YtodfjcmjoogcgaaDoor.Pure
namespace Go.Proofs.YtodfjcmjoogcgaaDoor.Pure
open Go.RowKit Go.Proofs.YtodfjcmjoogcgaaDoor.P Go.Proofs.YtodfjcmjoogcgaaDoorW.PrintWords Go.Proofs.YtodfjcmjoogcgaaDoorW.PrintLast Go.Proofs.YtodfjcmjoogcgaaDoorW.PrintMore
set_option linter.unusedVariables false
set_option linter.unusedSimpArgs false
def smallF (f : S59) : Bool := decide (f.f0.size ≤ 100) && decide (f.f1.size ≤ 300)
theorem small_loop (l : List S59) (hl : l.length ≤ 9223372036854775807) (n : Nat) : ∀ i : Nat, i + n = l.length → Ev (fun k => pantrylaw06_small.l0 k l l (l.length : Int) (i : Int)) ((l.drop i).all smallF && decide ((l.length : Int) ≤ 30)) := by
  induction n with
  | zero =>
    intro i hi
    refine ev_one fun k => ?_
    simp only [pantrylaw06_small.l0]
    rw [if_neg (by omega), List.drop_of_length_le (by omega)]
    simp
  | succ n ih =>
    intro i hi
    have hlt : i < l.length := by omega
    rw [List.drop_eq_getElem_cons hlt, List.all_cons]
    have w : wrap64 ((i : Int) + 1) = ((i + 1 : Nat) : Int) := by rw [wrap_id (by omega) (by omega)]; omega
    by_cases h : smallF l[i] = true
    · rw [h, Bool.true_and]
      refine ev_to _ (ih (i + 1) (by omega)) fun k => ?_
      simp only [smallF, Bool.and_eq_true, decide_eq_true_eq] at h
      simp only [pantrylaw06_small.l0, rd_fld l i hlt]
      rw [if_pos (by omega), if_pos (by omega), if_pos (by omega), if_neg (by omega), if_neg (by omega), w]
    · have h' : smallF l[i] = false := by simpa using h
      rw [h', Bool.false_and, Bool.false_and]
      refine ev_one fun k => ?_
      simp only [smallF, Bool.and_eq_true, decide_eq_true_eq] at h
      simp only [pantrylaw06_small.l0, rd_fld l i hlt]
      rw [if_pos (by omega), if_pos (by omega), if_pos (by omega)]
      by_cases h1 : (l[i].f0.size : Int) > 100
      · rw [if_pos h1]
      · rw [if_neg h1, if_pos (by omega)]
theorem small_some (l : List S59) (hl : l.length ≤ 9223372036854775807) : Ev (fun k => pantrylaw06_small.f k l) (l.all smallF && decide ((l.length : Int) ≤ 30)) := by
  have := small_loop l hl l.length 0 (by omega)
  simp only [List.drop_zero, List.nil_append] at this
  exact this
theorem small_ok {l : List S59} (h : (l.all smallF && decide ((l.length : Int) ≤ 30)) = true) : FOk l := by
  simp only [Bool.and_eq_true, List.all_eq_true, decide_eq_true_eq] at h
  refine ⟨by omega, fun x hx => ?_⟩
  have := h.1 x hx
  simp only [smallF, Bool.and_eq_true, decide_eq_true_eq] at this
  omega
theorem ev_ex {α : Type} {g : Nat → Option α} {r : α} (h : Ev g r) : ∃ k, g k = some r := by
  obtain ⟨K, hK⟩ := h; exact ⟨K, hK K (Nat.le_refl _)⟩
end Go.Proofs.YtodfjcmjoogcgaaDoor.Pure
namespace Go.Proofs.YtodfjcmjoogcgaaDoor.Pure
open Go.RowKit Go.Proofs.YtodfjcmjoogcgaaDoor.P Go.Proofs.YtodfjcmjoogcgaaDoorW.PrintWords Go.Proofs.YtodfjcmjoogcgaaDoorW.PrintLast Go.Proofs.YtodfjcmjoogcgaaDoorW.PrintMore
set_option linter.unusedVariables false
set_option linter.unusedSimpArgs false
theorem anchor06f : pantrylaw06_anchor.f = some true := rfl
/-- The frame of a response. -/
def respP (m : ByteArray) (s minor : Int) (l : List S59) : Int × Int × Int :=
  if m.data.toList = [72, 69, 65, 68] then (0, 0, 0) else if s < 200 then (0, 0, 0) else if s = 204 then (0, 0, 0) else if s = 304 then (0, 0, 0) else frameP minor l 3
theorem resp_some (m : ByteArray) (s : Int) (a : ByteArray) (minor : Int) (l : List S59) (hl : FOk l) : Ev (fun k => body_OfResponse.f k m s a minor l) (respP m s minor l) := by
  unfold body_OfResponse.f respP
  rw [tl]
  split
  · exact ev_now fun k => rfl
  · split
    · exact ev_now fun k => rfl
    · split
      · exact ev_now fun k => rfl
      · split
        · exact ev_now fun k => rfl
        · exact ev_bind (of_some minor 3 l hl) (ev_now fun k => rfl)
end Go.Proofs.YtodfjcmjoogcgaaDoor.Pure
namespace Go.Proofs.YtodfjcmjoogcgaaDoor.Pure
open Go.RowKit Go.Proofs.YtodfjcmjoogcgaaDoor.P Go.Proofs.YtodfjcmjoogcgaaDoorW.PrintWords Go.Proofs.YtodfjcmjoogcgaaDoorW.PrintLast Go.Proofs.YtodfjcmjoogcgaaDoorW.PrintMore
set_option linter.unusedVariables false
set_option linter.unusedSimpArgs false
/-- What is left of fields without names. -/
def withoutP (ns : List ByteArray) (l : List S59) : List S59 := l.filter fun f => !(ns.any fun n => lowEq n f.f0)
theorem without_loop (ns : List ByteArray) (hn : ∀ n ∈ ns, n.size ≤ 100000) (l : List S59) (hl : FOk l) (n : Nat) : ∀ (i : Nat) (out : List S59), i + n = l.length → out.length + n ≤ 1000 → Ev (fun k => field_List_Without.l0 k ns out l (l.length : Int) (i : Int)) (out ++ withoutP ns (l.drop i)) := by
  induction n with
  | zero =>
    intro i out hi ho
    refine ev_one fun k => ?_
    simp only [field_List_Without.l0]
    rw [if_neg (by omega), List.drop_of_length_le (by omega)]
    simp [withoutP]
  | succ n ih =>
    intro i out hi ho
    have hlt : i < l.length := by omega
    obtain ⟨h0, h1⟩ := hl.2 l[i] (List.getElem_mem hlt)
    have hlen := hl.1
    rw [List.drop_eq_getElem_cons hlt]
    have hn := named_some l[i].f0 l[i].f1 ns (by omega) (by intro x hx; have := hn x hx; omega)
    by_cases hb : (ns.any fun n => lowEq n l[i].f0) = true
    · have e : withoutP ns (l[i] :: l.drop (i + 1)) = withoutP ns (l.drop (i + 1)) := by simp only [withoutP, List.filter_cons, hb]; simp
      rw [e]
      refine ev_to _ (ih (i + 1) out (by omega) (by omega)) fun k => ?_
      simp only [field_List_Without.l0, rd_fld l i hlt]
      rw [if_pos (by omega), if_pos (by omega), if_pos (by omega), bind_some hn, if_pos hb, wrap_nat i (by omega)]
    · have e : withoutP ns (l[i] :: l.drop (i + 1)) = l[i] :: withoutP ns (l.drop (i + 1)) := by
        have hb' : (ns.any fun n => lowEq n l[i].f0) = false := by simpa using hb
        simp only [withoutP, List.filter_cons, hb']; simp
      rw [e]
      have := ih (i + 1) (out ++ [l[i]]) (by omega) (by simp; omega)
      rw [List.append_assoc, List.singleton_append] at this
      refine ev_to _ this fun k => ?_
      simp only [field_List_Without.l0, rd_fld l i hlt]
      rw [if_pos (by omega), if_pos (by omega), if_pos (by omega), bind_some hn, if_neg hb, if_pos (by omega), wrap_nat i (by omega)]
theorem without_some (ns : List ByteArray) (hn : ∀ n ∈ ns, n.size ≤ 100000) (l : List S59) (hl : FOk l) : Ev (fun k => field_List_Without.f k l ns) (withoutP ns l) := by
  have := without_loop ns hn l hl l.length 0 [] (by omega) (by have := hl.1; simp; omega)
  simp only [List.drop_zero, List.nil_append] at this
  exact this
theorem without_ok (ns : List ByteArray) (l : List S59) (hl : FOk l) : FOk (withoutP ns l) :=
  ⟨Nat.le_trans (List.length_filter_le _ _) hl.1, fun x hx => hl.2 x (List.mem_filter.1 hx).1⟩
theorem vals_without (ns : List ByteArray) (a : ByteArray) (h : a ∈ ns) (l : List S59) : vals a (withoutP ns l) = [] := by
  unfold vals withoutP
  rw [List.filter_filter, List.map_eq_nil_iff, List.filter_eq_nil_iff]
  intro f hf hx
  simp only [Bool.and_eq_true, Bool.not_eq_true', List.any_eq_false] at hx
  exact absurd hx.1 (by simpa using hx.2 a h)
end Go.Proofs.YtodfjcmjoogcgaaDoor.Pure
namespace Go.Proofs.YtodfjcmjoogcgaaDoor.Pure
open Go.RowKit Go.Proofs.YtodfjcmjoogcgaaDoor.P Go.Proofs.YtodfjcmjoogcgaaDoorW.PrintWords Go.Proofs.YtodfjcmjoogcgaaDoorW.PrintLast Go.Proofs.YtodfjcmjoogcgaaDoorW.PrintMore
set_option linter.unusedVariables false
set_option linter.unusedSimpArgs false
theorem none_true (l : List S59) (s : Int) (m : ByteArray) : Ev (fun k => pantrylaw06_BodyNone.j0 k l s m true) true :=
  ev_one fun k => by simp only [pantrylaw06_BodyNone.j0]; rw [if_pos trivial]
theorem none_j1t (l : List S59) (m : ByteArray) (s : Int) (a : ByteArray) (x : Int) (l2 : List S59) : Ev (fun k => pantrylaw06_BodyNone.j1 k l m 0 true s a x l2 0 0) true :=
  ev_one fun k => by simp only [pantrylaw06_BodyNone.j1]; rw [if_pos trivial, if_pos trivial]; rfl
theorem none_j1f (l : List S59) (hl : FOk l) (m : ByteArray) (s e : Int) (a : ByteArray) (l2 : List S59) (f1 f2 : Int) (h0 : ¬ m.data.toList = [72, 69, 65, 68]) (h1 : ¬ s < 200) (h2 : ¬ s = 204) (h3 : ¬ s = 304) : Ev (fun k => pantrylaw06_BodyNone.j1 k l m e false s a 1 l2 f1 f2) true := by
  have hw := without_some [bCL, bTE] (by intro n hn; simp at hn; rcases hn with rfl | rfl <;> decide) l hl
  have hr := resp_some m s a 1 _ (without_ok [bCL, bTE] l hl)
  have hp : respP m s 1 (withoutP [bCL, bTE] l) = (3, 0, 0) := by
    unfold respP frameP
    rw [if_neg h0, if_neg h1, if_neg h2, if_neg h3, vals_without [bCL, bTE] bTE (by simp), vals_without [bCL, bTE] bCL (by simp)]
    rfl
  rw [hp] at hr
  obtain ⟨K1, hw⟩ := hw
  obtain ⟨K2, hr⟩ := hr
  refine ⟨K1 + K2 + 1, fun k hk => ?_⟩
  obtain ⟨k, rfl⟩ : ∃ m, k = m + 1 := ⟨k - 1, by omega⟩
  have q1 := hw k (by omega)
  have q2 := hr k (by omega)
  simp only [bCL, bTE] at q1 q2
  simp only [pantrylaw06_BodyNone.j1]
  rw [if_neg (by decide), bind_some q1, bind_some q2, if_pos rfl]
  rfl
theorem none_j0 (l : List S59) (hl : FOk l) (s : Int) (m : ByteArray) : Ev (fun k => pantrylaw06_BodyNone.j0 k l s m false) true := by
  obtain ⟨K1, hr⟩ := resp_some m s (⟨#[]⟩ : ByteArray) 1 l hl
  have done : ∀ (r : Int × Int × Int), respP m s 1 l = r → Ev (fun k => if m.data.toList = ([72, 69, 65, 68] : List UInt8) then (pantrylaw06_BodyNone.j1 k l m r.2.2 true s (⟨#[]⟩ : ByteArray) 1 l r.1 r.2.1) else (if s < 200 then (pantrylaw06_BodyNone.j1 k l m r.2.2 true s (⟨#[]⟩ : ByteArray) 1 l r.1 r.2.1) else (if s = 204 then (pantrylaw06_BodyNone.j1 k l m r.2.2 true s (⟨#[]⟩ : ByteArray) 1 l r.1 r.2.1) else (pantrylaw06_BodyNone.j1 k l m r.2.2 (s == 304) s (⟨#[]⟩ : ByteArray) 1 l r.1 r.2.1)))) true := by
    intro r hr
    unfold respP at hr
    by_cases h0 : m.data.toList = [72, 69, 65, 68]
    · rw [if_pos h0] at hr; subst hr
      simp only [h0, if_true]; exact none_j1t _ _ _ _ _ _
    · rw [if_neg h0] at hr
      simp only [h0, if_false]
      by_cases h1 : s < 200
      · rw [if_pos h1] at hr; subst hr
        simp only [h1, if_true]; exact none_j1t _ _ _ _ _ _
      · rw [if_neg h1] at hr
        simp only [h1, if_false]
        by_cases h2 : s = 204
        · rw [if_pos h2] at hr; subst hr
          simp only [h2, if_true]; exact none_j1t _ _ _ _ _ _
        · rw [if_neg h2] at hr
          simp only [h2, if_false]
          by_cases h3 : s = 304
          · rw [if_pos h3] at hr; subst hr
            rw [h3]
            exact none_j1t _ _ _ _ _ _
          · have e : (s == 304) = false := by simpa using h3
            rw [e]
            exact none_j1f l hl m s _ _ _ _ _ h0 h1 h2 h3
  obtain ⟨K2, hd⟩ := done _ rfl
  refine ⟨K1 + K2 + 1, fun k hk => ?_⟩
  obtain ⟨k, rfl⟩ : ∃ m, k = m + 1 := ⟨k - 1, by omega⟩
  have q1 := hr k (by omega)
  have q2 := hd k (by omega)
  simp only at q1 q2
  simp only [pantrylaw06_BodyNone.j0]
  rw [if_neg (by decide), bind_some q1, tl]
  exact q2
theorem BodyNone : ∀ (l0 : List (S59)) (a1 : Int) (a2 : ByteArray), (l0.length ≤ 9223372036854775807 ∧ ∀ x ∈ l0, (x.f0.size ≤ 9223372036854775807) ∧ (x.f1.size ≤ 9223372036854775807)) → (Lit.int .i64 a1).wf = true → a2.size ≤ 140737488351232 → ∃ k, pantrylaw06_BodyNone.f k l0 a1 a2 = some true := by
  intro l0 a1 a2 h0 _ _
  refine ev_ex ?_
  unfold pantrylaw06_BodyNone.f
  refine ev_bind (ev_now fun k => anchor06f) ?_
  simp only [if_true]
  refine ev_bind (small_some l0 h0.1) ?_
  by_cases h : (l0.all smallF && decide ((l0.length : Int) ≤ 30)) = true
  · simp only [h, if_true]
    by_cases h2 : (a2.size : Int) > 30
    · simp only [h2, decide_true]; exact none_true _ _ _
    · simp only [h2, decide_false]; exact none_j0 _ (small_ok h) _ _
  · simp only [h]
    exact none_true _ _ _
end Go.Proofs.YtodfjcmjoogcgaaDoor.Pure
