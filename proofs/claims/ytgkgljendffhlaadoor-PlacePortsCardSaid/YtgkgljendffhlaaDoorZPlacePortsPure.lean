/-
  The plain law: what the functions of 'pantry' that this statement reaches compute, as lists and numbers, answers as the statement says.
-/
import Derived.Test.YtgkgljendffhlaaDoorWWords
import Derived.Test.YtgkgljendffhlaaDoorWLast
import Derived.Test.YtgkgljendffhlaaDoorWMore
import Derived.Lib.SlTrimSet
import Derived.Lib.Strings
import Derived.Lib.IndexBytes
import Derived.Lib.IndexMore
import Derived.Lib.SplitLaws
import Derived.Lib.Split
import Derived.Lib.Join
import Derived.Test.YtgkgljendffhlaaDoorZPlacePortsHelp
import Derived.Test.YtgkgljendffhlaaDoorZPlacePortsPx2
import Derived.Test.YtgkgljendffhlaaDoorZPlacePortsPx0
import Derived.Test.YtgkgljendffhlaaDoorZPlacePortsPx6
import Derived.Test.YtgkgljendffhlaaDoorZPlacePortsPx15
namespace Go.Proofs.YtgkgljendffhlaaDoor.Pure
open Go.RowKit Go.Proofs.YtgkgljendffhlaaDoorW.PrintWords Go.Proofs.YtgkgljendffhlaaDoorW.PrintLast Go.Proofs.YtgkgljendffhlaaDoorW.PrintMore
set_option linter.unusedVariables false
set_option linter.unusedSimpArgs false
/-! ### numbers -/
theorem wrap_id {x : Int} (h1 : -9223372036854775808 ≤ x) (h2 : x ≤ 9223372036854775807) : wrap64 x = x := by unfold wrap64; omega
theorem all_bytes {p : Nat → Prop} (h : ∀ n, n < 256 → p n) (c : UInt8) : p c.toNat := h _ c.toNat_lt
/-! ### bytes as lists -/
theorem ba_ext {s t : ByteArray} (h : s.data.toList = t.data.toList) : s = t := by
  cases s; cases t; simp only [ByteArray.mk.injEq]; exact Array.toList_inj.1 h
theorem tl (s : ByteArray) : s.toList = s.data.toList := Lib.toList_data s
theorem sz (s : ByteArray) : s.size = s.data.toList.length := Lib.size_eq s
theorem mk_data (l : List UInt8) : (⟨l.toArray⟩ : ByteArray).data.toList = l := rfl
theorem mk_size (l : List UInt8) : (⟨l.toArray⟩ : ByteArray).size = l.length := by rw [sz]
theorem ne_nilB (l : List UInt8) : (l != []) = !l.isEmpty := by cases l <;> rfl
theorem data_app (s t : ByteArray) : (s ++ t).data.toList = s.data.toList ++ t.data.toList := by
  simp [ByteArray.data_append]
theorem snoc_ind {α : Type} {p : List α → Prop} (nil : p []) (snoc : ∀ l a, p l → p (l ++ [a])) (l : List α) : p l := by
  rw [← List.reverse_reverse l]
  induction l.reverse with
  | nil => exact nil
  | cons a l ih => rw [List.reverse_cons]; exact snoc _ _ ih
/-- What stands in s from i on. -/
structure Sfx (s : ByteArray) (i : Int) (l : List UInt8) : Prop where
  ge : 0 ≤ i
  le : i + l.length = s.size
  eq : s.data.toList.drop i.toNat = l
theorem Sfx.start (s : ByteArray) : Sfx s 0 s.data.toList := ⟨by omega, by rw [sz]; omega, rfl⟩
theorem Sfx.stop {s : ByteArray} {i : Int} (h : Sfx s i []) : ¬ i < (s.size : Int) := by have := h.le; simp at this; omega
theorem Sfx.lt {s : ByteArray} {i : Int} {c : UInt8} {l : List UInt8} (h : Sfx s i (c :: l)) : i < (s.size : Int) := by have := h.le; simp at this; omega
theorem Sfx.at_ {s : ByteArray} {i : Int} {c : UInt8} {l : List UInt8} (h : Sfx s i (c :: l)) : s.data.toList[i.toNat]? = some c := by
  have := congrArg (·[0]?) h.eq
  simpa [List.getElem?_drop] using this
theorem bt_of {s : ByteArray} {i : Int} {c : UInt8} (h : s.data.toList[i.toNat]? = some c) : bt s i = (c.toNat : Int) := by
  have hl : i.toNat < s.size := by rw [sz]; exact (List.getElem?_eq_some_iff.1 h).1
  unfold bt
  rw [dif_pos hl]
  have h2 := (List.getElem?_eq_some_iff.1 h).2
  have : s[i.toNat]'hl = c := by rw [← h2]; rfl
  rw [this]
theorem Sfx.bt {s : ByteArray} {i : Int} {c : UInt8} {l : List UInt8} (h : Sfx s i (c :: l)) : bt s i = (c.toNat : Int) := bt_of h.at_
theorem Sfx.next {s : ByteArray} {i : Int} {c : UInt8} {l : List UInt8} (h : Sfx s i (c :: l)) : Sfx s (i + 1) l := by
  have h0 := h.ge
  refine ⟨by omega, by have := h.le; simp at this; omega, ?_⟩
  have := congrArg List.tail h.eq
  rw [List.tail_drop, List.tail_cons] at this
  rw [show (i + 1).toNat = i.toNat + 1 from by omega]; exact this
theorem Sfx.wrap {s : ByteArray} {i : Int} {c : UInt8} {l : List UInt8} (h : Sfx s i (c :: l)) (hs : s.size ≤ 4611686018427387904) : wrap64 (i + 1) = i + 1 :=
  wrap_id (by have := h.ge; omega) (by have := h.lt; omega)
theorem Sfx.tail {s : ByteArray} {i : Int} {l : List UInt8} (h : Sfx s i l) : (s.extract i.toNat s.size).data.toList = l := by
  rw [Lib.extract_data, h.eq, List.take_of_length_le]
  have := h.le; have := h.ge; omega
theorem Sfx.drop {s : ByteArray} {i : Int} {l m : List UInt8} (h : Sfx s i (l ++ m)) : Sfx s (i + l.length) m := by
  have h0 := h.ge; have h1 := h.le
  simp at h1
  refine ⟨by omega, by omega, ?_⟩
  rw [show (i + (l.length : Int)).toNat = i.toNat + l.length from by omega, ← List.drop_drop, h.eq, List.drop_left]
/-! ### rounds -/
theorem ev_mk {α : Type} {g : Nat → Option α} {r : α} (K : Nat) (h : ∀ k, g (k + K) = some r) : Ev g r :=
  ⟨K, fun k hk => by obtain ⟨m, rfl⟩ : ∃ m, k = m + K := ⟨k - K, by omega⟩; exact h m⟩
theorem ev_now {α : Type} {g : Nat → Option α} {r : α} (h : ∀ k, g k = some r) : Ev g r := ⟨0, fun k _ => h k⟩
theorem ev_one {α : Type} {g : Nat → Option α} {r : α} (h : ∀ k, g (k + 1) = some r) : Ev g r := ev_mk 1 h
theorem ev_to {α : Type} {g : Nat → Option α} {r : α} (f : Nat → Option α) (k : Ev f r) (h : ∀ k, g (k + 1) = f k) : Ev g r := Ev.step h k
theorem ev_eq {α : Type} {g : Nat → Option α} {r : α} (f : Nat → Option α) (k : Ev f r) (h : ∀ k, g k = f k) : Ev g r := Ev.congr h k
theorem ev_bind {α β : Type} {g : Nat → Option α} {f : Nat → α → Option β} {a : α} {r : β} (h : Ev g a) (k : Ev (fun n => f n a) r) : Ev (fun n => (g n).bind (f n)) r := Ev.bind h k
theorem ev_rw {α : Type} {g : Nat → Option α} {r r' : α} (h : Ev g r) (e : r = r') : Ev g r' := e ▸ h
theorem bind_some {α β : Type} {a : α} {x : Option α} {f : α → Option β} (h : x = some a) : x.bind f = f a := by rw [h]; rfl
end Go.Proofs.YtgkgljendffhlaaDoor.Pure
namespace Go.Proofs.YtgkgljendffhlaaDoor.Pure
open Go.RowKit Go.Proofs.YtgkgljendffhlaaDoorW.PrintWords Go.Proofs.YtgkgljendffhlaaDoorW.PrintLast Go.Proofs.YtgkgljendffhlaaDoorW.PrintMore
set_option linter.unusedVariables false
set_option linter.unusedSimpArgs false
/-! ### cuts and pieces at a byte -/
theorem byte_spec (c : UInt8) : ∀ s : List UInt8, (c ∉ s ∧ Lib.indexByte s c = -1) ∨ ∃ a b, s = a ++ c :: b ∧ c ∉ a ∧ Lib.indexByte s c = (a.length : Int)
  | [] => .inl ⟨by simp, rfl⟩
  | x :: s => by
    by_cases hx : x = c
    · subst hx
      exact .inr ⟨[], s, rfl, by simp, by simp [Lib.indexByte]⟩
    · have hb : (x == c) = false := by simpa using hx
      rcases byte_spec c s with ⟨h1, h2⟩ | ⟨a, b, rfl, h1, h2⟩
      · exact .inl ⟨by simp [h1, Ne.symm hx], by simp [Lib.indexByte, hb, h2]⟩
      · refine .inr ⟨x :: a, b, rfl, by simp [h1, Ne.symm hx], ?_⟩
        have : ¬ ((a.length : Int) == -1) = true := by rw [beq_iff_eq]; omega
        simp only [Lib.indexByte, hb, h2, this, if_false, List.length_cons]
        simp
def cutB (c : UInt8) : List UInt8 → List UInt8 × List UInt8 × Bool
  | [] => ([], [], false)
  | x :: l => if x = c then ([], l, true) else (x :: (cutB c l).1, (cutB c l).2.1, (cutB c l).2.2)
theorem cutB_miss (c : UInt8) : ∀ s : List UInt8, c ∉ s → cutB c s = (s, [], false)
  | [], _ => rfl
  | x :: s, h => by
    simp at h
    rw [cutB, if_neg (fun e => h.1 e.symm), cutB_miss c s h.2]
theorem cutB_hit (c : UInt8) (b : List UInt8) : ∀ a : List UInt8, c ∉ a → cutB c (a ++ c :: b) = (a, b, true)
  | [], _ => by simp [cutB]
  | x :: a, h => by
    simp at h
    rw [List.cons_append, cutB, if_neg (fun e => h.1 e.symm), cutB_hit c b a h.2]
theorem cut_eq (c : UInt8) (s : List UInt8) : Lib.cut s [c] = cutB c s := by
  unfold Lib.cut
  rw [Lib.index_one]
  rcases byte_spec c s with ⟨h1, h2⟩ | ⟨a, b, rfl, h1, h2⟩
  · rw [h2, if_neg (by decide), cutB_miss c s h1]
  · rw [h2, if_pos (by omega), cutB_hit c b a h1]
    simp
theorem cutB_len (c : UInt8) (s : List UInt8) : (cutB c s).1.length ≤ s.length ∧ (cutB c s).2.1.length ≤ s.length := by
  rcases byte_spec c s with ⟨h1, h2⟩ | ⟨a, b, rfl, h1, h2⟩
  · rw [cutB_miss c s h1]; simp
  · rw [cutB_hit c b a h1]; simp; omega
end Go.Proofs.YtgkgljendffhlaaDoor.Pure
namespace Go.Proofs.YtgkgljendffhlaaDoor.Pure
open Go.RowKit Go.Proofs.YtgkgljendffhlaaDoor.P Go.Proofs.YtgkgljendffhlaaDoorW.PrintWords Go.Proofs.YtgkgljendffhlaaDoorW.PrintLast Go.Proofs.YtgkgljendffhlaaDoorW.PrintMore
set_option linter.unusedVariables false
set_option linter.unusedSimpArgs false
/-! ### bytes as whole numbers -/
def il (l : List UInt8) : List Int := l.map fun b => (b.toNat : Int)
theorem strOf_il (l : List UInt8) : strOfNums (il l) = ⟨l.toArray⟩ := by
  refine ba_ext ?_
  rw [strOfNums_data, il, List.map_map, mk_data]
  conv => rhs; rw [← List.map_id l]
  apply List.map_congr_left; intro a _; simp
def lowS (l : List UInt8) : List UInt8 := l.map lowB
theorem lowS_length (l : List UInt8) : (lowS l).length = l.length := List.length_map _
theorem lower_sign (s : ByteArray) (hs : s.size ≤ 4611686018427387904) : sign_Lower.f s = some ⟨(lowS s.data.toList).toArray⟩ := by
  unfold sign_Lower.f; rw [if_pos (by omega)]; rfl
end Go.Proofs.YtgkgljendffhlaaDoor.Pure
namespace Go.Proofs.YtgkgljendffhlaaDoor.Pure
open Go.RowKit Go.Proofs.YtgkgljendffhlaaDoor.P Go.Proofs.YtgkgljendffhlaaDoorW.PrintWords Go.Proofs.YtgkgljendffhlaaDoorW.PrintLast Go.Proofs.YtgkgljendffhlaaDoorW.PrintMore
set_option linter.unusedVariables false
set_option linter.unusedSimpArgs false
/-! ### numbers of digits -/
def digB (c : UInt8) : Bool := 48 ≤ c && c ≤ 57
def far : Int := 2147483648
def numL (a : Int) : List UInt8 → Option Int
  | [] => some a
  | c :: l => if digB c then numL (mn (10 * a + ((c.toNat : Int) - 48)) far) l else none
/-- What Number tells. -/
def numS (l : List UInt8) : Int × Bool := match numL 0 l with
  | some n => (n, !l.isEmpty)
  | none => (0, false)
theorem dig_lo (c : UInt8) (h : digB c = true) : 48 ≤ (c.toNat : Int) ∧ (c.toNat : Int) ≤ 57 := by
  unfold digB at h
  simp [UInt8.le_iff_toNat_le] at h
  omega
theorem dig_no (c : UInt8) (h : ¬ digB c = true) : (c.toNat : Int) < 48 ∨ 57 < (c.toNat : Int) := by
  unfold digB at h
  simp [UInt8.le_iff_toNat_le] at h
  omega
theorem number_loop (s : ByteArray) (hs : s.size ≤ 4611686018427387904) (l : List UInt8) : ∀ i a, Sfx s i l → 0 ≤ a → a ≤ far → Ev (fun k => sign_Number.l0 k s a (s.size : Int) i) (match numL a l with | some n => (n, !s.data.toList.isEmpty) | none => (0, false)) := by
  induction l with
  | nil =>
    intro i a h h0 h1
    refine ev_one fun k => ?_
    simp only [sign_Number.l0]; rw [if_neg h.stop, tl, ne_nilB]; rfl
  | cons c l ih =>
    intro i a h h0 h1
    have hf : far = 2147483648 := rfl
    by_cases hc : digB c = true
    · have hd := dig_lo c hc
      have hw : wrap64 (wrap64 (10 * a) + ((c.toNat : Int) - 48) % 256) = 10 * a + ((c.toNat : Int) - 48) := by
        rw [wrap_id (x := 10 * a) (by omega) (by omega), Int.emod_eq_of_lt (by omega) (by omega), wrap_id (by omega) (by omega)]
      refine ev_to _ (ev_rw (ih _ (mn (10 * a + ((c.toNat : Int) - 48)) far) h.next (by unfold mn; split <;> omega) (by unfold mn; split <;> omega)) (by rw [numL, if_pos hc])) fun k => ?_
      simp only [sign_Number.l0]; rw [if_pos h.lt, if_pos h.ge, if_pos h.lt, h.bt, if_neg (by omega), if_neg (by omega), hw, h.wrap hs]; rfl
    · have hd := dig_no c hc
      refine ev_one fun k => ?_
      simp only [sign_Number.l0]; rw [if_pos h.lt, if_pos h.ge, if_pos h.lt, h.bt, numL, if_neg hc]
      by_cases h48 : (c.toNat : Int) < 48
      · rw [if_pos h48]
      · rw [if_neg h48, if_pos (by omega)]
theorem number_sign (s : ByteArray) (hs : s.size ≤ 4611686018427387904) : Ev (fun k => sign_Number.f k s) (numS s.data.toList) :=
  ev_rw (number_loop s hs _ 0 0 (Sfx.start s) (by omega) (by unfold far; omega)) rfl
end Go.Proofs.YtgkgljendffhlaaDoor.Pure
namespace Go.Proofs.YtgkgljendffhlaaDoor.Pure
open Go.RowKit Go.Proofs.YtgkgljendffhlaaDoor.P Go.Proofs.YtgkgljendffhlaaDoorW.PrintWords Go.Proofs.YtgkgljendffhlaaDoorW.PrintLast Go.Proofs.YtgkgljendffhlaaDoorW.PrintMore
set_option linter.unusedVariables false
set_option linter.unusedSimpArgs false
/-! ### a number's digits -/
def decN (n : Nat) : List UInt8 := if h : n < 10 then [UInt8.ofNat (48 + n)] else decN (n / 10) ++ [UInt8.ofNat (48 + n % 10)]
termination_by n
decreasing_by omega
theorem decN_lo (n : Nat) (h : n < 10) : decN n = [UInt8.ofNat (48 + n)] := by rw [decN, dif_pos h]
theorem decN_hi (n : Nat) (h : ¬ n < 10) : decN n = decN (n / 10) ++ [UInt8.ofNat (48 + n % 10)] := by rw [decN, dif_neg h]
theorem dig_of (d : Nat) (h : d < 10) : digB (UInt8.ofNat (48 + d)) = true ∧ ((UInt8.ofNat (48 + d)).toNat : Int) = 48 + d := by
  have e : (UInt8.ofNat (48 + d)).toNat = 48 + d := by rw [UInt8.toNat_ofNat']; omega
  refine ⟨?_, by rw [e]; omega⟩
  unfold digB
  simp [UInt8.le_iff_toNat_le, e]
  omega
theorem numL_app (l m : List UInt8) : ∀ a, numL a (l ++ m) = (numL a l).bind fun b => numL b m := by
  induction l with
  | nil => intro a; rfl
  | cons c l ih =>
    intro a
    rw [List.cons_append, numL, numL]
    by_cases hc : digB c = true
    · rw [if_pos hc, if_pos hc, ih]
    · rw [if_neg hc, if_neg hc]; rfl
theorem numL_dec (n : Nat) : numL 0 (decN n) = some (mn (n : Int) far) := by
  induction n using Nat.strongRecOn with
  | _ n ih =>
    have hf : far = 2147483648 := rfl
    by_cases h : n < 10
    · obtain ⟨h1, h2⟩ := dig_of n h
      rw [decN_lo n h, numL, if_pos h1, h2, numL]
      congr 1; unfold mn; split <;> split <;> omega
    · obtain ⟨h1, h2⟩ := dig_of (n % 10) (by omega)
      rw [decN_hi n h, numL_app, ih (n / 10) (by omega)]
      show numL (mn ((n / 10 : Nat) : Int) far) [UInt8.ofNat (48 + n % 10)] = _
      rw [numL, if_pos h1, h2, numL]
      congr 1
      unfold mn
      split <;> split <;> split <;> omega
theorem numL_zeros (z : Nat) (l : List UInt8) : numL 0 (List.replicate z 48 ++ l) = numL 0 l := by
  induction z with
  | zero => rfl
  | succ z ih => rw [List.replicate_succ, List.cons_append, numL, if_pos (by decide)]; exact ih
theorem decN_pos (n : Nat) : 0 < (decN n).length := by
  by_cases h : n < 10
  · rw [decN_lo n h]; simp
  · rw [decN_hi n h]; simp
theorem decN_len (n : Nat) : (decN n).length ≤ n + 1 := by
  induction n using Nat.strongRecOn with
  | _ n ih =>
    by_cases h : n < 10
    · rw [decN_lo n h]; simp
    · rw [decN_hi n h, List.length_append]
      have := ih (n / 10) (by omega)
      simp; omega
theorem decN_len2 (n : Nat) : ∀ d, n < 10 ^ d → 0 < d → (decN n).length ≤ d := by
  induction n using Nat.strongRecOn with
  | _ n ih =>
    intro d hd h0
    by_cases h : n < 10
    · rw [decN_lo n h]; simp; omega
    · rw [decN_hi n h, List.length_append]
      obtain ⟨e, rfl⟩ : ∃ e, d = e + 1 := ⟨d - 1, by omega⟩
      have h2 : 0 < e := by
        rcases Nat.eq_zero_or_pos e with rfl | h2
        · simp at hd; omega
        · exact h2
      have := ih (n / 10) (by omega) e (by rw [Nat.pow_succ] at hd; omega) h2
      simp; omega
theorem str_one (n : Int) (h0 : 0 ≤ n) (h1 : n < 256) : strOfNums [n] = ⟨#[UInt8.ofNat n.toNat]⟩ := rfl
end Go.Proofs.YtgkgljendffhlaaDoor.Pure
namespace Go.Proofs.YtgkgljendffhlaaDoor.Pure
open Go.RowKit Go.Proofs.YtgkgljendffhlaaDoor.P Go.Proofs.YtgkgljendffhlaaDoorW.PrintWords Go.Proofs.YtgkgljendffhlaaDoorW.PrintLast Go.Proofs.YtgkgljendffhlaaDoorW.PrintMore
set_option linter.unusedVariables false
set_option linter.unusedSimpArgs false
def letP (c : UInt8) : Bool := (97 ≤ c && c ≤ 122) || (65 ≤ c && c ≤ 90) || (48 ≤ c && c ≤ 57)
theorem letterP (c : UInt8) : place_letter.f (c.toNat : Int) = some (letP c) := by
  have := all_bytes (p := fun n => place_letter.f (n : Int) = some (letP (UInt8.ofNat n))) (by decide +kernel) c
  simpa using this
theorem index_byte_f (s : ByteArray) (c : UInt8) : strings_IndexByte.f s (c.toNat : Int) = some (Lib.indexByte s.data.toList c) := by
  unfold strings_IndexByte.f
  simp
theorem index_neg (m : List UInt8) (c : UInt8) : Lib.indexByte m c < 0 ↔ m.contains c = false := by
  rcases byte_spec c m with ⟨h1, h2⟩ | ⟨a, b, rfl, h1, h2⟩
  · rw [h2]; simp [h1]
  · rw [h2]; simp <;> try omega
theorem only_loop (s : ByteArray) (hs : s.size ≤ 4611686018427387904) (m : List UInt8) (l : List UInt8) : ∀ i, Sfx s i l → Ev (fun k => place_only.l0 k s (il m) (s.size : Int) i) (l.all fun c => letP c || m.contains c) := by
  induction l with
  | nil =>
    intro i h
    refine ev_one fun k => ?_
    simp only [place_only.l0]; rw [if_neg h.stop]; rfl
  | cons c l ih =>
    intro i h
    have hib : strings_IndexByte.f (strOfNums (il m)) (c.toNat : Int) = some (Lib.indexByte m c) := by rw [strOf_il, index_byte_f]
    by_cases hl : letP c = true
    · refine ev_to _ (ev_rw (ih _ h.next) (by simp [List.all_cons, hl])) fun k => ?_
      simp only [place_only.l0]; rw [if_pos h.lt, if_pos h.ge, if_pos h.lt, h.bt, letterP, bind_some rfl, h.wrap hs, if_pos hl]
    · by_cases hm : m.contains c = true
      · refine ev_to _ (ev_rw (ih _ h.next) (by simp only [List.all_cons, hm, Bool.or_true, Bool.true_and])) fun k => ?_
        simp only [place_only.l0]; rw [if_pos h.lt, if_pos h.ge, if_pos h.lt, h.bt, letterP, bind_some rfl, if_neg hl, bind_some hib, if_neg (by rw [index_neg, hm]; decide), h.wrap hs]
      · have hm : m.contains c = false := by simpa using hm
        have hl2 : letP c = false := by simpa using hl
        refine ev_one fun k => ?_
        simp only [place_only.l0]; rw [if_pos h.lt, if_pos h.ge, if_pos h.lt, h.bt, letterP, bind_some rfl, if_neg hl, bind_some hib, if_pos ((index_neg m c).2 hm)]
        simp only [List.all_cons, hl2, hm, Bool.or_self, Bool.false_and]
theorem only_some (s : ByteArray) (hs : s.size ≤ 4611686018427387904) (m : List UInt8) : Ev (fun k => place_only.f k s (il m)) (s.data.toList.all fun c => letP c || m.contains c) :=
  only_loop s hs m _ 0 (Sfx.start s)
def hostB (c : UInt8) : Bool := letP c || ([45, 46] : List UInt8).contains c
/-- The host of a host's text. -/
def hostS (s : List UInt8) : Option (List UInt8) :=
  if (cutB 58 s).1 = [] ∨ 40 < (cutB 58 s).1.length ∨ (cutB 58 s).1.all hostB = false ∨ 5 < (cutB 58 s).2.1.length ∨ ((cutB 58 s).2.1 ≠ [] ∧ (numS (cutB 58 s).2.1).2 = false) then none
  else if (cutB 58 s).2.1 = [] ∨ (numS (cutB 58 s).2.1).1 = 80 then some (lowS (cutB 58 s).1) else some (lowS (cutB 58 s).1 ++ 58 :: decN (numS (cutB 58 s).2.1).1.toNat)
def resH : Option (List UInt8) → ByteArray × Int
  | some h => (⟨h.toArray⟩, 0)
  | none => (⟨#[]⟩, 25)
theorem numL_digits (l : List UInt8) : ∀ a, (∃ n, numL a l = some n) ↔ l.all digB = true := by
  induction l with
  | nil => intro a; simp [numL]
  | cons c l ih =>
    intro a
    rw [numL, List.all_cons]
    by_cases h : digB c = true
    · rw [if_pos h, ih, h, Bool.true_and]
    · have h' : digB c = false := by simpa using h
      rw [if_neg h, h']; simp
theorem dec_back (t : List UInt8) : t ≠ [] → t.all digB = true → t.head? ≠ some 48 → t.length ≤ 9 → ∃ n : Nat, numL 0 t = some (n : Int) ∧ 1 ≤ n ∧ n < 10 ^ t.length ∧ decN n = t := by
  refine snoc_ind (p := fun t => t ≠ [] → t.all digB = true → t.head? ≠ some 48 → t.length ≤ 9 → ∃ n : Nat, numL 0 t = some (n : Int) ∧ 1 ≤ n ∧ n < 10 ^ t.length ∧ decN n = t) (by simp) ?_ t
  intro l d ih _ hd hh hl
  rw [List.all_append, Bool.and_eq_true] at hd
  have hd2 : digB d = true := by simpa using hd.2
  have hb := dig_lo d hd2
  have hof : ∀ k : Nat, (d.toNat : Int) = 48 + k → UInt8.ofNat (48 + k) = d := fun k hk => by
    have : 48 + k = d.toNat := by omega
    rw [this]; simp
  by_cases h0 : l = []
  · subst h0
    have hne : (d.toNat : Int) ≠ 48 := by
      intro e
      apply hh
      have : d = 48 := UInt8.toNat_inj.1 (by show d.toNat = 48; omega)
      subst this; rfl
    obtain ⟨k, hk⟩ : ∃ k : Nat, (d.toNat : Int) = 48 + k := ⟨d.toNat - 48, by omega⟩
    have hf : far = 2147483648 := rfl
    refine ⟨k, ?_, by omega, by simp; omega, ?_⟩
    · simp only [List.nil_append, numL, if_pos hd2]
      rw [show (10 * 0 + ((d.toNat : Int) - 48)) = k from by omega]
      congr 1; unfold mn; split <;> omega
    · rw [decN_lo k (by omega), hof k hk]; rfl
  · obtain ⟨n, h1, h2, h3, h4⟩ := ih h0 hd.1 (by cases l with | nil => exact absurd rfl h0 | cons x l => simpa using hh) (by simp at hl; omega)
    obtain ⟨k, hk⟩ : ∃ k : Nat, (d.toNat : Int) = 48 + k := ⟨d.toNat - 48, by omega⟩
    have hlt : l.length ≤ 8 := by simp at hl; omega
    have hn8 : n < 100000000 := Nat.lt_of_lt_of_le h3 (Nat.pow_le_pow_right (by decide) hlt)
    have hf : far = 2147483648 := rfl
    refine ⟨10 * n + k, ?_, by omega, ?_, ?_⟩
    · rw [numL_app, h1]
      simp only [Option.bind_some, numL, if_pos hd2]
      rw [show (10 * (n : Int) + ((d.toNat : Int) - 48)) = ((10 * n + k : Nat) : Int) from by omega]
      congr 1; unfold mn; split <;> omega
    · rw [List.length_append, List.length_singleton, Nat.pow_succ]; omega
    · rw [decN_hi _ (by omega), show (10 * n + k) / 10 = n from by omega, show (10 * n + k) % 10 = k from by omega, h4, hof k hk]
theorem drop_zeros : ∀ l : List UInt8, ∃ z, l = List.replicate z 48 ++ l.dropWhile (· == 48) ∧ (l.dropWhile (· == 48)).head? ≠ some 48
  | [] => ⟨0, rfl, by simp⟩
  | c :: l => by
    by_cases h : c = 48
    · subst h
      obtain ⟨z, h1, h2⟩ := drop_zeros l
      refine ⟨z + 1, ?_, by simpa using h2⟩
      rw [List.replicate_succ, List.cons_append]
      simp only [List.dropWhile_cons, BEq.rfl, if_true]
      rw [← h1]
    · have hb : (c == 48) = false := by simpa using h
      refine ⟨0, by simp [List.dropWhile_cons, hb], by simp [List.dropWhile_cons, hb, h]⟩
/-- A port's digits without noughts ahead. -/
theorem port_text (l : List UInt8) (h0 : l ≠ []) (hl : l.length ≤ 5) (hd : l.all digB = true) : (if l.dropWhile (· == 48) = [] then [48] else l.dropWhile (· == 48)) = decN (numS l).1.toNat := by
  obtain ⟨z, h1, h2⟩ := drop_zeros l
  generalize ht : l.dropWhile (· == 48) = t at *
  have hn : numL 0 l = numL 0 t := by rw [h1, numL_zeros]
  by_cases htn : t = []
  · rw [if_pos htn]
    subst htn
    have : numS l = (0, !l.isEmpty) := by unfold numS; rw [hn]; rfl
    rw [this]
    show [48] = decN 0
    rw [decN_lo 0 (by omega)]
    rfl
  · rw [if_neg htn]
    obtain ⟨n, q1, q2, q3, q4⟩ := dec_back t htn (by rw [h1, List.all_append, Bool.and_eq_true] at hd; exact hd.2) h2 (by have := congrArg List.length h1; simp at this; omega)
    have : numS l = ((n : Int), !l.isEmpty) := by unfold numS; rw [hn, q1]
    rw [this]
    exact q4.symm
theorem cut_f (c : UInt8) (s : ByteArray) (hs : s.size < 4294967281) : strings_Cut.f s ⟨#[c]⟩ = some (⟨(cutB c s.data.toList).1.toArray⟩, ⟨(cutB c s.data.toList).2.1.toArray⟩, (cutB c s.data.toList).2.2) := by
  unfold strings_Cut.f
  rw [if_pos hs, show (⟨#[c]⟩ : ByteArray).data.toList = [c] from rfl, cut_eq]
theorem numS_snd (l : List UInt8) (h : (numS l).2 = true) : l ≠ [] ∧ l.all digB = true := by
  unfold numS at h
  cases hn : numL 0 l with
  | none => rw [hn] at h; cases h
  | some n =>
    rw [hn] at h
    exact ⟨by intro e; subst e; simp at h, (numL_digits l 0).1 ⟨n, hn⟩⟩
theorem trim_left_f (s : ByteArray) : strings_TrimLeft.f s ⟨#[48]⟩ = some ⟨(s.data.toList.dropWhile (· == 48)).toArray⟩ := by
  unfold strings_TrimLeft.f
  simp only [show (⟨#[48]⟩ : ByteArray).data.toList = [48] from rfl]
  rw [if_pos (by decide)]
  rfl
theorem host_j1 (name num : List UInt8) (hn : name.length ≤ 40) (h5 : num.length ≤ 5) (b : Bool) (hb : b = false → num ≠ [] ∧ num.all digB = true) : Ev (fun k => place_Host.j1 k ⟨name.toArray⟩ ⟨num.toArray⟩ b) (resH (some (if b = true then name else name ++ 58 :: decN (numS num).1.toNat))) := by
  refine ev_one fun k => ?_
  simp only [place_Host.j1]
  cases b with
  | true => rw [if_pos rfl, if_pos rfl]; rfl
  | false =>
    obtain ⟨h0, hd⟩ := hb rfl
    have hp := port_text num h0 h5 hd
    rw [if_neg (by decide), trim_left_f, bind_some rfl, tl, mk_data, if_neg Bool.false_ne_true, mk_size]
    by_cases ht : num.dropWhile (· == 48) = []
    · rw [if_pos ht] at hp ⊢
      rw [← hp, if_pos (by omega), if_pos (by rw [sz, data_app]; simp; omega)]
      simp only [resH, Option.some.injEq, Prod.mk.injEq, and_true]
      exact ba_ext (by rw [data_app, data_app]; simp)
    · rw [if_neg ht] at hp ⊢
      have hdl : (num.dropWhile (· == 48)).length ≤ num.length := List.Sublist.length_le (List.dropWhile_sublist _)
      rw [← hp, if_pos (by omega), if_pos (by rw [sz, data_app, mk_size]; simp; omega)]
      simp only [resH, Option.some.injEq, Prod.mk.injEq, and_true]
      exact ba_ext (by rw [data_app, data_app]; simp)
theorem host_j0t (a b : ByteArray) (n : Int) : Ev (fun k => place_Host.j0 k a b n true) (resH none) :=
  ev_one fun k => by simp only [place_Host.j0]; rw [if_pos trivial]; rfl
theorem host_j0f (name num : List UInt8) (hn : name.length ≤ 40) (h5 : num.length ≤ 5) (hd : num ≠ [] → (numS num).2 = true) : Ev (fun k => place_Host.j0 k ⟨name.toArray⟩ ⟨num.toArray⟩ (numS num).1 false) (resH (some (if num = [] ∨ (numS num).1 = 80 then lowS name else lowS name ++ 58 :: decN (numS num).1.toNat))) := by
  have hl := lower_sign ⟨name.toArray⟩ (by rw [mk_size]; omega)
  rw [mk_data] at hl
  have key : ∀ b : Bool, (b = true ↔ (num = [] ∨ (numS num).1 = 80)) → Ev (fun k => place_Host.j1 k ⟨(lowS name).toArray⟩ ⟨num.toArray⟩ b) (resH (some (if num = [] ∨ (numS num).1 = 80 then lowS name else lowS name ++ 58 :: decN (numS num).1.toNat))) := by
    intro b hb
    have := host_j1 (lowS name) num (by rw [lowS_length]; exact hn) h5 b (by
      intro e
      have h0 : num ≠ [] := by intro e2; have := hb.2 (.inl e2); rw [e] at this; cases this
      exact ⟨h0, (numS_snd num (hd h0)).2⟩)
    refine ev_rw this ?_
    by_cases h : num = [] ∨ (numS num).1 = 80
    · rw [if_pos h, if_pos (hb.2 h)]
    · rw [if_neg h, if_neg (fun e => h (hb.1 e))]
  by_cases h0 : num = []
  · refine ev_to _ (key true (by simp [h0])) fun k => ?_
    simp only [place_Host.j0]
    rw [if_neg (by decide), bind_some hl, tl, mk_data, if_pos h0]
  · refine ev_to _ (key ((numS num).1 == 80) (by simp [h0])) fun k => ?_
    simp only [place_Host.j0]
    rw [if_neg (by decide), bind_some hl, tl, mk_data, if_neg h0]
theorem host_prog (s : ByteArray) (hs : s.size < 4294967281) : Ev (fun k => place_Host.f k s) (resH (hostS s.data.toList)) := by
  unfold place_Host.f hostS
  have hcl := cutB_len 58 s.data.toList
  rw [cut_f 58 s hs]
  simp only [Option.bind_some]
  generalize (cutB 58 s.data.toList).1 = name at *
  generalize (cutB 58 s.data.toList).2.1 = num at *
  have hsz := sz s
  have hnum := number_sign ⟨num.toArray⟩ (by rw [mk_size]; omega)
  rw [mk_data] at hnum
  refine ev_bind hnum ?_
  rw [tl, mk_data, mk_size, mk_size, tl, mk_data]
  by_cases h1 : name = []
  · simp only [h1, if_true, true_or]; exact host_j0t _ _ _
  simp only [h1, if_false, false_or]
  by_cases h2 : (name.length : Int) > 40
  · have h2' : 40 < name.length := by omega
    simp only [h2, h2', if_true, true_or]; exact host_j0t _ _ _
  have h2' : ¬ 40 < name.length := by omega
  simp only [h2, h2', if_false, false_or]
  have ho := only_some ⟨name.toArray⟩ (by rw [mk_size]; omega) [45, 46]
  rw [mk_data] at ho
  refine ev_bind ho ?_
  have hall : (name.all fun c => letP c || ([45, 46] : List UInt8).contains c) = name.all hostB := rfl
  rw [hall]
  by_cases h3 : name.all hostB = true
  · have h3' : ¬ name.all hostB = false := by rw [h3]; decide
    simp only [h3, h3', if_true, false_or]
    by_cases h4 : (num.length : Int) > 5
    · have h4' : 5 < num.length := by omega
      simp only [h4, h4', if_true, true_or]; exact host_j0t _ _ _
    have h4' : ¬ 5 < num.length := by omega
    simp only [h4, h4', if_false, false_or]
    by_cases h5 : num = []
    · simp only [h5, if_true, ne_eq, not_true, false_and, if_false, true_or]
      have := host_j0f name [] (by omega) (by simp) (by simp)
      simpa using this
    · simp only [h5, if_false, ne_eq, not_false_eq_true, true_and, false_or]
      cases hb : (numS num).2 with
      | true =>
        simp only [Bool.not_true, Bool.true_eq_false, if_false]
        have := host_j0f name num (by omega) (by omega) (fun _ => hb)
        simp only [h5, false_or] at this
        refine ev_rw this ?_
        split <;> rfl
      | false => simp only [Bool.not_false, if_true]; exact host_j0t _ _ _
  · have h3' : name.all hostB = false := by simpa using h3
    simp only [h3', Bool.false_eq_true, if_false, true_or, if_true]
    exact host_j0t _ _ _
end Go.Proofs.YtgkgljendffhlaaDoor.Pure
namespace Go.Proofs.YtgkgljendffhlaaDoor.Pure
open Go.RowKit Go.Proofs.YtgkgljendffhlaaDoor.P Go.Proofs.YtgkgljendffhlaaDoorW.PrintWords Go.Proofs.YtgkgljendffhlaaDoorW.PrintLast Go.Proofs.YtgkgljendffhlaaDoorW.PrintMore
set_option linter.unusedVariables false
set_option linter.unusedSimpArgs false
theorem anchor_at : pantrylaw08_anchor.f 60 = some true := by decide +kernel
theorem anchor_ev : Ev (fun k => pantrylaw08_anchor.f k) true := Ev.of (fun k => pantrylaw08_anchor.mono k) anchor_at
end Go.Proofs.YtgkgljendffhlaaDoor.Pure
/-
The law PlacePorts: a port's noughts and the port 80.
-/
namespace Go.Proofs.YtgkgljendffhlaaDoor.Pure
open Go.RowKit Go.Proofs.YtgkgljendffhlaaDoor.P Go.Proofs.YtgkgljendffhlaaDoorW.PrintWords Go.Proofs.YtgkgljendffhlaaDoorW.PrintLast Go.Proofs.YtgkgljendffhlaaDoorW.PrintMore
set_option linter.unusedVariables false
set_option linter.unusedSimpArgs false
theorem text_ev (n : Nat) (hn : n ≤ 4611686018427387904) : Ev (fun k => pantrylaw08_text.f k (n : Int)) ⟨(decN n).toArray⟩ := by
  induction n using Nat.strongRecOn with
  | _ n ih =>
    by_cases h : n < 10
    · refine ev_one fun k => ?_
      simp only [pantrylaw08_text.f]
      rw [if_pos (by omega), wrap_id (by omega) (by omega), Int.emod_eq_of_lt (by omega) (by omega), str_one _ (by omega) (by omega), decN_lo n h, show (48 + (n : Int)).toNat = 48 + n from by omega]
    · have hd : wrap64 (Int.tdiv (n : Int) 10) = ((n / 10 : Nat) : Int) := by rw [Int.tdiv_eq_ediv_of_nonneg (by omega), wrap_id (by omega) (by omega)]; omega
      have hm : Int.tmod (n : Int) 10 = ((n % 10 : Nat) : Int) := by rw [Int.tmod_eq_emod_of_nonneg (by omega)]; omega
      have hI := ih (n / 10) (by omega) (by omega)
      have hl := decN_len (n / 10)
      have hs1 : (⟨(decN (n / 10)).toArray⟩ : ByteArray).size = (decN (n / 10)).length := mk_size _
      have he : wrap64 (48 + ((n % 10 : Nat) : Int)) % 256 = 48 + ((n % 10 : Nat) : Int) := by rw [wrap_id (by omega) (by omega), Int.emod_eq_of_lt (by omega) (by omega)]
      refine ev_to (fun k => (pantrylaw08_text.f k ((n / 10 : Nat) : Int)).bind fun t192 => (if t192.size + (strOfNums [48 + ((n % 10 : Nat) : Int)]).size ≤ 9223372036854775807 then (some (t192 ++ (strOfNums [48 + ((n % 10 : Nat) : Int)]))) else (none))) ?_ fun k => by
        simp only [pantrylaw08_text.f]
        rw [if_neg (by omega), hd, hm, he]; rfl
      refine ev_bind hI ?_
      refine ev_now fun k => ?_
      rw [if_pos (by rw [hs1, strOfNums_size]; simp; omega), str_one _ (by omega) (by omega), show (48 + ((n % 10 : Nat) : Int)).toNat = 48 + n % 10 from by omega]
      refine congrArg some (ba_ext ?_)
      rw [data_app, mk_data, mk_data, decN_hi n h]
/-- A host's text with a colon and a port after it. -/
theorem hostS_port (a : List UInt8) (ha : 58 ∉ a) (b : List UInt8) : hostS (a ++ 58 :: b) = if a = [] ∨ 40 < a.length ∨ a.all hostB = false ∨ 5 < b.length ∨ (b ≠ [] ∧ (numS b).2 = false) then none
  else if b = [] ∨ (numS b).1 = 80 then some (lowS a) else some (lowS a ++ 58 :: decN (numS b).1.toNat) := by
  unfold hostS
  rw [cutB_hit 58 b a ha]
theorem hostS_bare (a : List UInt8) (ha : 58 ∉ a) : hostS a = if a = [] ∨ 40 < a.length ∨ a.all hostB = false then none else some (lowS a) := by
  unfold hostS
  rw [cutB_miss 58 a ha]
  simp
theorem numS_text (z n : Nat) (hn : n ≤ 1000000) : numS (List.replicate z 48 ++ decN n) = ((n : Int), true) := by
  have hf : far = 2147483648 := rfl
  unfold numS; rw [numL_zeros, numL_dec]
  have := decN_pos n
  have hm : mn (n : Int) far = (n : Int) := by unfold mn; split <;> omega
  rw [hm]
  cases h : decN n with
  | nil => rw [h] at this; simp at this
  | cons => simp
/-- What stands at the law's end, the name's colons looked for. -/
theorem ports_l1 (x0 : ByteArray) (hx : x0.size ≤ 40) (p z : Nat) (hp : p ≤ 99999) (hz : z ≤ 4) (x1 : Int) (h1 : x1 = (p : Int)) (T : List UInt8) (hT : T = List.replicate z 48 ++ decN p)
    (A B C D : ByteArray × Int) (hA : A = resH (hostS x0.data.toList)) (hB : B = resH (hostS (x0.data.toList ++ [58]))) (hC : C = resH (hostS (x0.data.toList ++ [58, 56, 48]))) (hD : D = resH (hostS (x0.data.toList ++ 58 :: T)))
    (l : List UInt8) : ∀ i, Sfx x0 i l → (∀ m, x0.data.toList = m ++ l → 58 ∉ m) → (∃ m, x0.data.toList = m ++ l) → Ev (fun k => pantrylaw08_PlacePorts.l1 k x0 x1 A.1 A.2 B.1 B.2 C.1 C.2 ⟨T.toArray⟩ D.1 D.2 (x0.size : Int) i) true := by
  induction l with
  | nil =>
    intro i h hm _
    have hno : 58 ∉ x0.data.toList := hm _ (by simp)
    have h80 : numS [56, 48] = (80, true) := by decide +kernel
    have hTs := numS_text z p (by omega)
    rw [← hT] at hTs
    have hTn : T ≠ [] := by have := decN_pos p; rw [hT]; intro e; have := congrArg List.length e; rw [List.length_append, List.length_replicate] at this; simp only [List.length_nil] at this; omega
    have hlen : x0.data.toList.length ≤ 40 := by rw [← sz]; exact hx
    rw [hostS_bare _ hno] at hA
    rw [show x0.data.toList ++ [58] = x0.data.toList ++ 58 :: [] from rfl, hostS_port _ hno] at hB
    rw [show x0.data.toList ++ [58, 56, 48] = x0.data.toList ++ 58 :: [56, 48] from rfl, hostS_port _ hno, h80] at hC
    rw [hostS_port _ hno, hTs] at hD
    by_cases hok : x0.data.toList = [] ∨ 40 < x0.data.toList.length ∨ x0.data.toList.all hostB = false
    · have g : ∀ b : Prop, (x0.data.toList = [] ∨ 40 < x0.data.toList.length ∨ x0.data.toList.all hostB = false ∨ b) := fun b => by
        rcases hok with h | h | h
        · exact .inl h
        · exact .inr (.inl h)
        · exact .inr (.inr (.inl h))
      rw [if_pos hok] at hA
      rw [if_pos (g _)] at hB hC hD
      subst hA hB hC hD
      refine ev_one fun k => ?_
      simp only [pantrylaw08_PlacePorts.l1]
      rw [if_neg h.stop]
      rfl
    · have e1 : x0.data.toList ≠ [] := fun e => hok (.inl e)
      have e2 : ¬ 40 < x0.data.toList.length := fun e => hok (.inr (.inl e))
      have e3 : ¬ x0.data.toList.all hostB = false := fun e => hok (.inr (.inr e))
      have g : ∀ b : Prop, ¬ b → ¬ (x0.data.toList = [] ∨ 40 < x0.data.toList.length ∨ x0.data.toList.all hostB = false ∨ b) := fun b hb e => by
        rcases e with h | h | h | h
        · exact e1 h
        · exact e2 h
        · exact e3 h
        · exact hb h
      rw [if_neg hok] at hA
      rw [if_neg (g _ (by simp)), if_pos (by simp)] at hB
      rw [if_neg (g _ (by simp)), if_pos (by simp)] at hC
      have hLL : (⟨(lowS x0.data.toList).toArray⟩ : ByteArray).toList = lowS x0.data.toList := tl _
      have step : ∀ k, pantrylaw08_PlacePorts.l1 (k + 1) x0 x1 A.1 A.2 B.1 B.2 C.1 C.2 ⟨T.toArray⟩ D.1 D.2 (x0.size : Int) i = pantrylaw08_PlacePorts.j3 k x1 ⟨(lowS x0.data.toList).toArray⟩ ⟨T.toArray⟩ D.1 D.2 false := fun k => by
        subst hA hB hC
        simp only [pantrylaw08_PlacePorts.l1]
        rw [if_neg h.stop]
        simp only [resH, if_true]
        rfl
      refine ev_to _ ?_ step
      have hTz : (⟨T.toArray⟩ : ByteArray).size = T.length := mk_size T
      by_cases h5 : 5 < T.length
      · rw [if_pos (.inr (.inr (.inr (.inl h5))))] at hD
        subst hD
        refine ev_one fun k => ?_
        simp only [pantrylaw08_PlacePorts.j3]
        rw [if_neg Bool.false_ne_true, if_pos (by rw [hTz]; omega)]
        rfl
      · rw [if_neg (g _ (by intro e; rcases e with e | ⟨_, e⟩; exact h5 e; cases e))] at hD
        by_cases h8 : p = 80
        · subst h8
          rw [if_pos (.inr rfl)] at hD
          subst hD
          refine ev_one fun k => ?_
          simp only [pantrylaw08_PlacePorts.j3]
          rw [if_neg Bool.false_ne_true, if_neg (by rw [hTz]; omega), if_pos (show (resH (some (lowS x0.data.toList))).2 = 0 from rfl), if_pos (show x1 = 80 from h1), if_pos (show (resH (some (lowS x0.data.toList))).1.toList = (⟨(lowS x0.data.toList).toArray⟩ : ByteArray).toList from rfl)]
        · rw [if_neg (by intro e; rcases e with e | e; exact hTn e; simp only at e; omega)] at hD
          subst hD
          refine ev_to (fun k => (pantrylaw08_text.f k (p : Int)).bind fun t578 => (if ((⟨(lowS x0.data.toList).toArray⟩ : ByteArray) ++ (⟨#[58]⟩ : ByteArray)).size + t578.size ≤ 9223372036854775807 then (some ((lowS x0.data.toList ++ 58 :: decN p) == (((⟨(lowS x0.data.toList).toArray⟩ : ByteArray) ++ (⟨#[58]⟩ : ByteArray)) ++ t578).toList)) else (none))) ?_ fun k => by
            simp only [pantrylaw08_PlacePorts.j3]
            rw [if_neg Bool.false_ne_true, if_neg (by rw [hTz]; omega), if_pos (show (resH (some _)).2 = 0 from rfl), if_neg (by omega), if_pos (by rw [mk_size, lowS_length]; omega), h1]
            simp only [resH, tl, mk_data, Int.toNat_natCast]
          refine ev_bind (text_ev p (by omega)) ?_
          refine ev_now fun k => ?_
          have := decN_len2 p 5 (by omega) (by omega)
          rw [if_pos (by rw [sz, data_app, mk_data, mk_size, List.length_append, lowS_length]; simp; omega)]
          rw [tl, data_app, data_app, mk_data, mk_data]
          simp
  | cons c l ih =>
    intro i h hm hex
    obtain ⟨m, hm0⟩ := hex
    by_cases hc : c = 58
    · subst hc
      refine ev_one fun k => ?_
      simp only [pantrylaw08_PlacePorts.l1]
      rw [if_pos h.lt, if_pos h.ge, if_pos h.lt, h.bt, if_pos (show (((58 : UInt8).toNat : Nat) : Int) = 58 from rfl)]
    · have hc2 : ¬ (c.toNat : Int) = 58 := fun e => hc (UInt8.toNat_inj.1 (by show c.toNat = 58; omega))
      refine ev_to _ (ih (i + 1) h.next ?_ ⟨m ++ [c], by rw [hm0]; simp⟩) fun k => ?_
      · intro m' h'
        have e : m' = m ++ [c] := by
          have := h'.symm.trans hm0
          have h2 : m' ++ l = (m ++ [c]) ++ l := by rw [this]; simp
          exact List.append_cancel_right h2
        subst e
        have := hm m hm0
        simp; exact ⟨this, fun e => hc e.symm⟩
      · simp only [pantrylaw08_PlacePorts.l1]
        rw [if_pos h.lt, if_pos h.ge, if_pos h.lt, h.bt, if_neg hc2, h.wrap (by omega)]
theorem ports_l0 (x0 : ByteArray) (hx : x0.size ≤ 40) (p z : Nat) (hp : p ≤ 99999) (hz : z ≤ 4) (x1 : Int) (h1 : x1 = (p : Int))
    (A B C : ByteArray × Int) (hA : A = resH (hostS x0.data.toList)) (hB : B = resH (hostS (x0.data.toList ++ [58]))) (hC : C = resH (hostS (x0.data.toList ++ [58, 56, 48])))
    (m : Nat) : ∀ (i : Nat) (x : ByteArray), i + m = z → x.data.toList = List.replicate i 48 ++ decN p → Ev (fun k => pantrylaw08_PlacePorts.l0 k x0 x1 A.1 A.2 B.1 B.2 C.1 C.2 x (z : Int) (i : Int)) true := by
  have hd := decN_len2 p 5 (by omega) (by omega)
  induction m with
  | zero =>
    intro i x hi hxd
    have hxs : x.size = i + (decN p).length := by rw [sz, hxd]; simp
    have hxe : x = ⟨(List.replicate i 48 ++ decN p).toArray⟩ := ba_ext hxd
    have hs1 : (x0 ++ (⟨#[58]⟩ : ByteArray)).size = x0.size + 1 := by rw [sz, data_app, sz x0, List.length_append]; rfl
    have hdd : ((x0 ++ (⟨#[58]⟩ : ByteArray)) ++ x).data.toList = x0.data.toList ++ 58 :: (List.replicate i 48 ++ decN p) := by rw [data_app, data_app, hxd]; simp
    have hH := host_prog ((x0 ++ (⟨#[58]⟩ : ByteArray)) ++ x) (by rw [sz, hdd]; simp; have := sz x0; omega)
    rw [hdd] at hH
    refine ev_to (fun k => (place_Host.f k ((x0 ++ (⟨#[58]⟩ : ByteArray)) ++ x)).bind fun bt576 => (pantrylaw08_PlacePorts.l1 k x0 x1 A.1 A.2 B.1 B.2 C.1 C.2 x bt576.1 bt576.2 (x0.size : Int) 0)) ?_ fun k => by
      simp only [pantrylaw08_PlacePorts.l0]
      rw [if_neg (by omega), if_pos (by omega), if_pos (by rw [hs1]; omega)]
    refine ev_bind hH ?_
    rw [hxe]
    exact ports_l1 x0 hx p i hp (by omega) x1 h1 _ rfl A B C _ hA hB hC rfl _ 0 (Sfx.start x0) (fun m h => by
      have := congrArg List.length h; simp at this; subst this; simp) ⟨[], rfl⟩
  | succ m ih =>
    intro i x hi hxd
    have hxs : x.size = i + (decN p).length := by rw [sz, hxd]; simp
    have hw : wrap64 ((i : Int) + 1) = ((i + 1 : Nat) : Int) := by rw [wrap_id (by omega) (by omega)]; omega
    refine ev_to _ (ih (i + 1) ((⟨#[48]⟩ : ByteArray) ++ x) (by omega) (by rw [data_app, hxd, List.replicate_succ]; rfl)) fun k => ?_
    simp only [pantrylaw08_PlacePorts.l0]; rw [if_pos (by omega), if_pos (by omega), hw]
theorem PlacePorts : ∀ (a0 : ByteArray) (a1 : Int) (a2 : Int), a0.size ≤ 140737488351232 → (Lit.int .i64 a1).wf = true → (Lit.int .i64 a2).wf = true → ∃ k, pantrylaw08_PlacePorts.f k a0 a1 a2 = some true := by
  intro a0 a1 a2 _ _ _
  refine Ev.rounds ?_
  unfold pantrylaw08_PlacePorts.f
  refine ev_bind anchor_ev ?_
  have hj : Ev (fun k => pantrylaw08_PlacePorts.j0 k a0 a1 a2 true) true := ev_one fun k => by simp only [pantrylaw08_PlacePorts.j0]; rw [if_pos trivial]
  by_cases h1 : (a0.size : Int) > 40
  · exact ev_eq _ hj fun k => by rw [if_pos rfl, if_pos h1]
  by_cases h2 : a1 < 0
  · exact ev_eq _ hj fun k => by rw [if_pos rfl, if_neg h1, if_pos h2]
  by_cases h3 : a1 > 99999
  · exact ev_eq _ hj fun k => by rw [if_pos rfl, if_neg h1, if_neg h2, if_pos h3]
  by_cases h4 : a2 < 0
  · exact ev_eq _ hj fun k => by rw [if_pos rfl, if_neg h1, if_neg h2, if_neg h3, if_pos h4]
  by_cases h5 : a2 > 4
  · exact ev_eq _ hj fun k => by rw [if_pos rfl, if_neg h1, if_neg h2, if_neg h3, if_neg h4, decide_eq_true h5]
  refine ev_eq (fun k => pantrylaw08_PlacePorts.j0 k a0 a1 a2 false) ?_ fun k => by rw [if_pos rfl, if_neg h1, if_neg h2, if_neg h3, if_neg h4, decide_eq_false h5]
  obtain ⟨p, rfl⟩ := Int.eq_ofNat_of_zero_le (show 0 ≤ a1 by omega)
  obtain ⟨z, rfl⟩ := Int.eq_ofNat_of_zero_le (show 0 ≤ a2 by omega)
  have hB := host_prog (a0 ++ (⟨#[58]⟩ : ByteArray)) (by rw [sz, data_app]; simp; have := sz a0; omega)
  have hC := host_prog (a0 ++ (⟨#[58, 56, 48]⟩ : ByteArray)) (by rw [sz, data_app]; simp; have := sz a0; omega)
  rw [data_app] at hB hC
  refine ev_to (fun k => (place_Host.f k a0).bind fun bt569 => ((place_Host.f k (a0 ++ (⟨#[58]⟩ : ByteArray))).bind fun bt571 => ((place_Host.f k (a0 ++ (⟨#[58, 56, 48]⟩ : ByteArray))).bind fun bt573 => ((pantrylaw08_text.f k (p : Int)).bind fun t575 => (pantrylaw08_PlacePorts.l0 k a0 (p : Int) bt569.1 bt569.2 bt571.1 bt571.2 bt573.1 bt573.2 t575 (z : Int) 0))))) ?_ fun k => by
    simp only [pantrylaw08_PlacePorts.j0]
    simp only [if_neg Bool.false_ne_true, if_pos (show a0.size + 1 ≤ 9223372036854775807 by omega), if_pos (show a0.size + 3 ≤ 9223372036854775807 by omega)]
  refine ev_bind (host_prog a0 (by omega)) ?_
  refine ev_bind hB ?_
  refine ev_bind hC ?_
  refine ev_bind (text_ev p (by omega)) ?_
  exact ports_l0 a0 (by omega) p z (by omega) (by omega) _ rfl _ _ _ rfl rfl rfl z 0 _ (by omega) rfl
end Go.Proofs.YtgkgljendffhlaaDoor.Pure
