/-
  The plain law: what the functions of 'pantry' that this statement reaches compute, as lists and numbers, answers as the statement says.
-/
import Derived.Test.YtgkgljendffhlaaDoorWWords
import Derived.Test.YtgkgljendffhlaaDoorWLast
import Derived.Test.YtgkgljendffhlaaDoorWMore
import Derived.Lib.SlTrimSet
import Derived.Lib.Strings
import Derived.Lib.IndexBytes
import Derived.Lib.IndexMore
import Derived.Lib.SplitLaws
import Derived.Lib.Split
import Derived.Lib.Join
import Derived.Test.YtgkgljendffhlaaDoorZPlaceDotsHelp
import Derived.Test.YtgkgljendffhlaaDoorZPlaceDotsPx2
import Derived.Test.YtgkgljendffhlaaDoorZPlaceDotsPx0
import Derived.Test.YtgkgljendffhlaaDoorZPlaceDotsPx4
import Derived.Test.YtgkgljendffhlaaDoorZPlaceDotsPx5
import Derived.Lib.IndexAny
import Derived.Test.YtgkgljendffhlaaDoorZPlaceDotsPx6
import Derived.Test.YtgkgljendffhlaaDoorZPlaceDotsPx1
import Derived.Test.YtgkgljendffhlaaDoorZPlaceDotsPx14
namespace Go.Proofs.YtgkgljendffhlaaDoor.Pure
open Go.RowKit Go.Proofs.YtgkgljendffhlaaDoorW.PrintWords Go.Proofs.YtgkgljendffhlaaDoorW.PrintLast Go.Proofs.YtgkgljendffhlaaDoorW.PrintMore
set_option linter.unusedVariables false
set_option linter.unusedSimpArgs false
/-! ### numbers -/
theorem wrap_id {x : Int} (h1 : -9223372036854775808 ≤ x) (h2 : x ≤ 9223372036854775807) : wrap64 x = x := by unfold wrap64; omega
theorem all_bytes {p : Nat → Prop} (h : ∀ n, n < 256 → p n) (c : UInt8) : p c.toNat := h _ c.toNat_lt
/-! ### bytes as lists -/
theorem ba_ext {s t : ByteArray} (h : s.data.toList = t.data.toList) : s = t := by
  cases s; cases t; simp only [ByteArray.mk.injEq]; exact Array.toList_inj.1 h
theorem tl (s : ByteArray) : s.toList = s.data.toList := Lib.toList_data s
theorem sz (s : ByteArray) : s.size = s.data.toList.length := Lib.size_eq s
theorem mk_data (l : List UInt8) : (⟨l.toArray⟩ : ByteArray).data.toList = l := rfl
theorem mk_size (l : List UInt8) : (⟨l.toArray⟩ : ByteArray).size = l.length := by rw [sz]
theorem mk_eta (s : ByteArray) : (⟨s.data.toList.toArray⟩ : ByteArray) = s := ba_ext rfl
theorem ne_nilB (l : List UInt8) : (l != []) = !l.isEmpty := by cases l <;> rfl
theorem data_app (s t : ByteArray) : (s ++ t).data.toList = s.data.toList ++ t.data.toList := by
  simp [ByteArray.data_append]
theorem snoc_ind {α : Type} {p : List α → Prop} (nil : p []) (snoc : ∀ l a, p l → p (l ++ [a])) (l : List α) : p l := by
  rw [← List.reverse_reverse l]
  induction l.reverse with
  | nil => exact nil
  | cons a l ih => rw [List.reverse_cons]; exact snoc _ _ ih
/-- What stands in s from i on. -/
structure Sfx (s : ByteArray) (i : Int) (l : List UInt8) : Prop where
  ge : 0 ≤ i
  le : i + l.length = s.size
  eq : s.data.toList.drop i.toNat = l
theorem Sfx.start (s : ByteArray) : Sfx s 0 s.data.toList := ⟨by omega, by rw [sz]; omega, rfl⟩
theorem Sfx.stop {s : ByteArray} {i : Int} (h : Sfx s i []) : ¬ i < (s.size : Int) := by have := h.le; simp at this; omega
theorem Sfx.lt {s : ByteArray} {i : Int} {c : UInt8} {l : List UInt8} (h : Sfx s i (c :: l)) : i < (s.size : Int) := by have := h.le; simp at this; omega
theorem Sfx.at_ {s : ByteArray} {i : Int} {c : UInt8} {l : List UInt8} (h : Sfx s i (c :: l)) : s.data.toList[i.toNat]? = some c := by
  have := congrArg (·[0]?) h.eq
  simpa [List.getElem?_drop] using this
theorem bt_of {s : ByteArray} {i : Int} {c : UInt8} (h : s.data.toList[i.toNat]? = some c) : bt s i = (c.toNat : Int) := by
  have hl : i.toNat < s.size := by rw [sz]; exact (List.getElem?_eq_some_iff.1 h).1
  unfold bt
  rw [dif_pos hl]
  have h2 := (List.getElem?_eq_some_iff.1 h).2
  have : s[i.toNat]'hl = c := by rw [← h2]; rfl
  rw [this]
theorem Sfx.bt {s : ByteArray} {i : Int} {c : UInt8} {l : List UInt8} (h : Sfx s i (c :: l)) : bt s i = (c.toNat : Int) := bt_of h.at_
theorem Sfx.next {s : ByteArray} {i : Int} {c : UInt8} {l : List UInt8} (h : Sfx s i (c :: l)) : Sfx s (i + 1) l := by
  have h0 := h.ge
  refine ⟨by omega, by have := h.le; simp at this; omega, ?_⟩
  have := congrArg List.tail h.eq
  rw [List.tail_drop, List.tail_cons] at this
  rw [show (i + 1).toNat = i.toNat + 1 from by omega]; exact this
theorem Sfx.wrap {s : ByteArray} {i : Int} {c : UInt8} {l : List UInt8} (h : Sfx s i (c :: l)) (hs : s.size ≤ 4611686018427387904) : wrap64 (i + 1) = i + 1 :=
  wrap_id (by have := h.ge; omega) (by have := h.lt; omega)
theorem Sfx.tail {s : ByteArray} {i : Int} {l : List UInt8} (h : Sfx s i l) : (s.extract i.toNat s.size).data.toList = l := by
  rw [Lib.extract_data, h.eq, List.take_of_length_le]
  have := h.le; have := h.ge; omega
theorem Sfx.drop {s : ByteArray} {i : Int} {l m : List UInt8} (h : Sfx s i (l ++ m)) : Sfx s (i + l.length) m := by
  have h0 := h.ge; have h1 := h.le
  simp at h1
  refine ⟨by omega, by omega, ?_⟩
  rw [show (i + (l.length : Int)).toNat = i.toNat + l.length from by omega, ← List.drop_drop, h.eq, List.drop_left]
theorem Sfx.part {s : ByteArray} {i : Int} {l m : List UInt8} (h : Sfx s i (l ++ m)) (j : Int) (hj : j = i + l.length) : (s.extract i.toNat j.toNat).data.toList = l := by
  have h0 := h.ge
  rw [Lib.extract_data, h.eq, hj, show (i + (l.length : Int)).toNat - i.toNat = l.length from by omega, List.take_left]
theorem extract_app (s : ByteArray) (l m : List UInt8) (h : s.data.toList = l ++ m) (n : Int) (hn : n = l.length) : (s.extract 0 n.toNat).data.toList = l := by
  rw [Lib.extract_data, h, hn]; simp
/-! ### rounds -/
theorem ev_mk {α : Type} {g : Nat → Option α} {r : α} (K : Nat) (h : ∀ k, g (k + K) = some r) : Ev g r :=
  ⟨K, fun k hk => by obtain ⟨m, rfl⟩ : ∃ m, k = m + K := ⟨k - K, by omega⟩; exact h m⟩
theorem ev_now {α : Type} {g : Nat → Option α} {r : α} (h : ∀ k, g k = some r) : Ev g r := ⟨0, fun k _ => h k⟩
theorem ev_one {α : Type} {g : Nat → Option α} {r : α} (h : ∀ k, g (k + 1) = some r) : Ev g r := ev_mk 1 h
theorem ev_to {α : Type} {g : Nat → Option α} {r : α} (f : Nat → Option α) (k : Ev f r) (h : ∀ k, g (k + 1) = f k) : Ev g r := Ev.step h k
theorem ev_eq {α : Type} {g : Nat → Option α} {r : α} (f : Nat → Option α) (k : Ev f r) (h : ∀ k, g k = f k) : Ev g r := Ev.congr h k
theorem ev_bind {α β : Type} {g : Nat → Option α} {f : Nat → α → Option β} {a : α} {r : β} (h : Ev g a) (k : Ev (fun n => f n a) r) : Ev (fun n => (g n).bind (f n)) r := Ev.bind h k
theorem ev_rw {α : Type} {g : Nat → Option α} {r r' : α} (h : Ev g r) (e : r = r') : Ev g r' := e ▸ h
theorem bind_some {α β : Type} {a : α} {x : Option α} {f : α → Option β} (h : x = some a) : x.bind f = f a := by rw [h]; rfl
end Go.Proofs.YtgkgljendffhlaaDoor.Pure
namespace Go.Proofs.YtgkgljendffhlaaDoor.Pure
open Go.RowKit Go.Proofs.YtgkgljendffhlaaDoorW.PrintWords Go.Proofs.YtgkgljendffhlaaDoorW.PrintLast Go.Proofs.YtgkgljendffhlaaDoorW.PrintMore
set_option linter.unusedVariables false
set_option linter.unusedSimpArgs false
/-! ### cuts and pieces at a byte -/
theorem byte_spec (c : UInt8) : ∀ s : List UInt8, (c ∉ s ∧ Lib.indexByte s c = -1) ∨ ∃ a b, s = a ++ c :: b ∧ c ∉ a ∧ Lib.indexByte s c = (a.length : Int)
  | [] => .inl ⟨by simp, rfl⟩
  | x :: s => by
    by_cases hx : x = c
    · subst hx
      exact .inr ⟨[], s, rfl, by simp, by simp [Lib.indexByte]⟩
    · have hb : (x == c) = false := by simpa using hx
      rcases byte_spec c s with ⟨h1, h2⟩ | ⟨a, b, rfl, h1, h2⟩
      · exact .inl ⟨by simp [h1, Ne.symm hx], by simp [Lib.indexByte, hb, h2]⟩
      · refine .inr ⟨x :: a, b, rfl, by simp [h1, Ne.symm hx], ?_⟩
        have : ¬ ((a.length : Int) == -1) = true := by rw [beq_iff_eq]; omega
        simp only [Lib.indexByte, hb, h2, this, if_false, List.length_cons]
        simp
def cutB (c : UInt8) : List UInt8 → List UInt8 × List UInt8 × Bool
  | [] => ([], [], false)
  | x :: l => if x = c then ([], l, true) else (x :: (cutB c l).1, (cutB c l).2.1, (cutB c l).2.2)
theorem cutB_miss (c : UInt8) : ∀ s : List UInt8, c ∉ s → cutB c s = (s, [], false)
  | [], _ => rfl
  | x :: s, h => by
    simp at h
    rw [cutB, if_neg (fun e => h.1 e.symm), cutB_miss c s h.2]
theorem cutB_hit (c : UInt8) (b : List UInt8) : ∀ a : List UInt8, c ∉ a → cutB c (a ++ c :: b) = (a, b, true)
  | [], _ => by simp [cutB]
  | x :: a, h => by
    simp at h
    rw [List.cons_append, cutB, if_neg (fun e => h.1 e.symm), cutB_hit c b a h.2]
theorem cut_eq (c : UInt8) (s : List UInt8) : Lib.cut s [c] = cutB c s := by
  unfold Lib.cut
  rw [Lib.index_one]
  rcases byte_spec c s with ⟨h1, h2⟩ | ⟨a, b, rfl, h1, h2⟩
  · rw [h2, if_neg (by decide), cutB_miss c s h1]
  · rw [h2, if_pos (by omega), cutB_hit c b a h1]
    simp
theorem cutB_len (c : UInt8) (s : List UInt8) : (cutB c s).1.length ≤ s.length ∧ (cutB c s).2.1.length ≤ s.length := by
  rcases byte_spec c s with ⟨h1, h2⟩ | ⟨a, b, rfl, h1, h2⟩
  · rw [cutB_miss c s h1]; simp
  · rw [cutB_hit c b a h1]; simp; omega
def splitOn (c : UInt8) : List UInt8 → List (List UInt8)
  | [] => [[]]
  | x :: l => if x = c then [] :: splitOn c l else match splitOn c l with
    | [] => [[x]]
    | a :: r => (x :: a) :: r
theorem splitOn_miss (c : UInt8) : ∀ s : List UInt8, c ∉ s → splitOn c s = [s]
  | [], _ => rfl
  | x :: s, h => by
    simp at h
    rw [splitOn, if_neg (fun e => h.1 e.symm), splitOn_miss c s h.2]
theorem splitOn_hit (c : UInt8) (b : List UInt8) : ∀ a : List UInt8, c ∉ a → splitOn c (a ++ c :: b) = a :: splitOn c b
  | [], _ => by simp [splitOn]
  | x :: a, h => by
    simp at h
    rw [List.cons_append, splitOn, if_neg (fun e => h.1 e.symm), splitOn_hit c b a h.2]
theorem splitK_eq (c : UInt8) (n : Nat) : ∀ s : List UInt8, s.length ≤ n → Lib.splitK [c] 0 (s.count c) s = splitOn c s := by
  induction n with
  | zero =>
    intro s hs
    have : s = [] := List.length_eq_zero_iff.1 (by omega)
    subst this; rfl
  | succ n ih =>
    intro s hs
    rcases byte_spec c s with ⟨h1, h2⟩ | ⟨a, b, rfl, h1, h2⟩
    · rw [List.count_eq_zero_of_not_mem h1, splitOn_miss c s h1]; rfl
    · have hc : (a ++ c :: b).count c = b.count c + 1 := by
        rw [List.count_append, List.count_eq_zero_of_not_mem h1, List.count_cons_self, Nat.zero_add]
      rw [hc, splitOn_hit c b a h1, Lib.splitK, Lib.index_one, h2, if_neg (by rw [beq_iff_eq]; omega)]
      have e1 : (a ++ c :: b).take ((a.length : Int).toNat + 0) = a := by simp
      have e2 : (a ++ c :: b).drop ((a.length : Int).toNat + [c].length) = b := by simp
      rw [e1, e2, ih b (by simp at hs; omega)]
theorem split_eq (c : UInt8) (s : ByteArray) : (Lib.splitB ⟨#[c]⟩ 0 (Lib.countB s ⟨#[c]⟩) s).map (·.data.toList) = splitOn c s.data.toList := by
  rw [Lib.splitB_data]
  show Lib.splitK [c] 0 (Lib.count s.data.toList [c]) s.data.toList = _
  rw [Lib.count_one]
  exact splitK_eq c _ _ (Nat.le_refl _)
theorem splitOn_ne (c : UInt8) : ∀ s : List UInt8, splitOn c s ≠ []
  | [] => by simp [splitOn]
  | x :: s => by
    rw [splitOn]; split
    · simp
    · split <;> simp
theorem splitOn_mem (c : UInt8) (n : Nat) : ∀ s : List UInt8, s.length ≤ n → ∀ p ∈ splitOn c s, c ∉ p ∧ p.length ≤ s.length := by
  induction n with
  | zero =>
    intro s hs p hp
    have : s = [] := List.length_eq_zero_iff.1 (by omega)
    subst this; simp [splitOn] at hp; subst hp; simp
  | succ n ih =>
    intro s hs p hp
    rcases byte_spec c s with ⟨h1, h2⟩ | ⟨a, b, rfl, h1, h2⟩
    · rw [splitOn_miss c s h1] at hp; simp at hp; subst hp; exact ⟨h1, Nat.le_refl _⟩
    · rw [splitOn_hit c b a h1] at hp
      rcases List.mem_cons.1 hp with rfl | hp
      · exact ⟨h1, by simp⟩
      · obtain ⟨q1, q2⟩ := ih b (by simp at hs; omega) p hp
        exact ⟨q1, by simp; omega⟩
theorem splitOn_len (c : UInt8) : ∀ s : List UInt8, (splitOn c s).length ≤ s.length + 1
  | [] => by simp [splitOn]
  | x :: s => by
    have ih := splitOn_len c s
    rw [splitOn]; split
    · simp; omega
    · split
      · simp
      · rename_i a r h; rw [h] at ih; simp at ih ⊢; omega
/-- Pieces, joined again. -/
def joinOn (c : UInt8) (l : List (List UInt8)) : List UInt8 := Lib.join l [c]
theorem joinOn_one (c : UInt8) (x : List UInt8) : joinOn c [x] = x := by simp [joinOn, Lib.join_one]
theorem joinOn_cons (c : UInt8) (x y : List UInt8) (l : List (List UInt8)) : joinOn c (x :: y :: l) = x ++ c :: joinOn c (y :: l) := by
  simp [joinOn, Lib.join_cons, Lib.joinTail]
theorem splitOn_join (c : UInt8) : ∀ l : List (List UInt8), l ≠ [] → (∀ p ∈ l, c ∉ p) → splitOn c (joinOn c l) = l
  | [x], _, h => by rw [joinOn_one]; exact splitOn_miss c x (h x (by simp))
  | x :: y :: l, _, h => by
    rw [joinOn_cons, splitOn_hit c _ x (h x (by simp)), splitOn_join c (y :: l) (by simp) (fun p hp => h p (by simp [hp]))]
end Go.Proofs.YtgkgljendffhlaaDoor.Pure
namespace Go.Proofs.YtgkgljendffhlaaDoor.Pure
open Go.RowKit Go.Proofs.YtgkgljendffhlaaDoor.P Go.Proofs.YtgkgljendffhlaaDoorW.PrintWords Go.Proofs.YtgkgljendffhlaaDoorW.PrintLast Go.Proofs.YtgkgljendffhlaaDoorW.PrintMore
set_option linter.unusedVariables false
set_option linter.unusedSimpArgs false
/-! ### bytes as whole numbers -/
def il (l : List UInt8) : List Int := l.map fun b => (b.toNat : Int)
theorem il_app (l m : List UInt8) : il (l ++ m) = il l ++ il m := List.map_append
theorem il_length (l : List UInt8) : (il l).length = l.length := List.length_map _
theorem strOf_il (l : List UInt8) : strOfNums (il l) = ⟨l.toArray⟩ := by
  refine ba_ext ?_
  rw [strOfNums_data, il, List.map_map, mk_data]
  conv => rhs; rw [← List.map_id l]
  apply List.map_congr_left; intro a _; simp
def lowS (l : List UInt8) : List UInt8 := l.map lowB
theorem lowS_length (l : List UInt8) : (lowS l).length = l.length := List.length_map _
theorem lower_sign (s : ByteArray) (hs : s.size ≤ 4611686018427387904) : sign_Lower.f s = some ⟨(lowS s.data.toList).toArray⟩ := by
  unfold sign_Lower.f; rw [if_pos (by omega)]; rfl
end Go.Proofs.YtgkgljendffhlaaDoor.Pure
namespace Go.Proofs.YtgkgljendffhlaaDoor.Pure
open Go.RowKit Go.Proofs.YtgkgljendffhlaaDoor.P Go.Proofs.YtgkgljendffhlaaDoorW.PrintWords Go.Proofs.YtgkgljendffhlaaDoorW.PrintLast Go.Proofs.YtgkgljendffhlaaDoorW.PrintMore
set_option linter.unusedVariables false
set_option linter.unusedSimpArgs false
/-! ### numbers of digits -/
def digB (c : UInt8) : Bool := 48 ≤ c && c ≤ 57
def far : Int := 2147483648
def numL (a : Int) : List UInt8 → Option Int
  | [] => some a
  | c :: l => if digB c then numL (mn (10 * a + ((c.toNat : Int) - 48)) far) l else none
/-- What Number tells. -/
def numS (l : List UInt8) : Int × Bool := match numL 0 l with
  | some n => (n, !l.isEmpty)
  | none => (0, false)
theorem dig_lo (c : UInt8) (h : digB c = true) : 48 ≤ (c.toNat : Int) ∧ (c.toNat : Int) ≤ 57 := by
  unfold digB at h
  simp [UInt8.le_iff_toNat_le] at h
  omega
theorem dig_no (c : UInt8) (h : ¬ digB c = true) : (c.toNat : Int) < 48 ∨ 57 < (c.toNat : Int) := by
  unfold digB at h
  simp [UInt8.le_iff_toNat_le] at h
  omega
theorem number_loop (s : ByteArray) (hs : s.size ≤ 4611686018427387904) (l : List UInt8) : ∀ i a, Sfx s i l → 0 ≤ a → a ≤ far → Ev (fun k => sign_Number.l0 k s a (s.size : Int) i) (match numL a l with | some n => (n, !s.data.toList.isEmpty) | none => (0, false)) := by
  induction l with
  | nil =>
    intro i a h h0 h1
    refine ev_one fun k => ?_
    simp only [sign_Number.l0]; rw [if_neg h.stop, tl, ne_nilB]; rfl
  | cons c l ih =>
    intro i a h h0 h1
    have hf : far = 2147483648 := rfl
    by_cases hc : digB c = true
    · have hd := dig_lo c hc
      have hw : wrap64 (wrap64 (10 * a) + ((c.toNat : Int) - 48) % 256) = 10 * a + ((c.toNat : Int) - 48) := by
        rw [wrap_id (x := 10 * a) (by omega) (by omega), Int.emod_eq_of_lt (by omega) (by omega), wrap_id (by omega) (by omega)]
      refine ev_to _ (ev_rw (ih _ (mn (10 * a + ((c.toNat : Int) - 48)) far) h.next (by unfold mn; split <;> omega) (by unfold mn; split <;> omega)) (by rw [numL, if_pos hc])) fun k => ?_
      simp only [sign_Number.l0]; rw [if_pos h.lt, if_pos h.ge, if_pos h.lt, h.bt, if_neg (by omega), if_neg (by omega), hw, h.wrap hs]; rfl
    · have hd := dig_no c hc
      refine ev_one fun k => ?_
      simp only [sign_Number.l0]; rw [if_pos h.lt, if_pos h.ge, if_pos h.lt, h.bt, numL, if_neg hc]
      by_cases h48 : (c.toNat : Int) < 48
      · rw [if_pos h48]
      · rw [if_neg h48, if_pos (by omega)]
theorem number_sign (s : ByteArray) (hs : s.size ≤ 4611686018427387904) : Ev (fun k => sign_Number.f k s) (numS s.data.toList) :=
  ev_rw (number_loop s hs _ 0 0 (Sfx.start s) (by omega) (by unfold far; omega)) rfl
end Go.Proofs.YtgkgljendffhlaaDoor.Pure
namespace Go.Proofs.YtgkgljendffhlaaDoor.Pure
open Go.RowKit Go.Proofs.YtgkgljendffhlaaDoor.P Go.Proofs.YtgkgljendffhlaaDoorW.PrintWords Go.Proofs.YtgkgljendffhlaaDoorW.PrintLast Go.Proofs.YtgkgljendffhlaaDoorW.PrintMore
set_option linter.unusedVariables false
set_option linter.unusedSimpArgs false
/-! ### a number's digits -/
def decN (n : Nat) : List UInt8 := if h : n < 10 then [UInt8.ofNat (48 + n)] else decN (n / 10) ++ [UInt8.ofNat (48 + n % 10)]
termination_by n
decreasing_by omega
theorem decN_lo (n : Nat) (h : n < 10) : decN n = [UInt8.ofNat (48 + n)] := by rw [decN, dif_pos h]
theorem decN_hi (n : Nat) (h : ¬ n < 10) : decN n = decN (n / 10) ++ [UInt8.ofNat (48 + n % 10)] := by rw [decN, dif_neg h]
theorem numL_app (l m : List UInt8) : ∀ a, numL a (l ++ m) = (numL a l).bind fun b => numL b m := by
  induction l with
  | nil => intro a; rfl
  | cons c l ih =>
    intro a
    rw [List.cons_append, numL, numL]
    by_cases hc : digB c = true
    · rw [if_pos hc, if_pos hc, ih]
    · rw [if_neg hc, if_neg hc]; rfl
theorem numL_zeros (z : Nat) (l : List UInt8) : numL 0 (List.replicate z 48 ++ l) = numL 0 l := by
  induction z with
  | zero => rfl
  | succ z ih => rw [List.replicate_succ, List.cons_append, numL, if_pos (by decide)]; exact ih
theorem str_one (n : Int) (h0 : 0 ≤ n) (h1 : n < 256) : strOfNums [n] = ⟨#[UInt8.ofNat n.toNat]⟩ := rfl
end Go.Proofs.YtgkgljendffhlaaDoor.Pure
namespace Go.Proofs.YtgkgljendffhlaaDoor.Pure
open Go.RowKit Go.Proofs.YtgkgljendffhlaaDoor.P Go.Proofs.YtgkgljendffhlaaDoorW.PrintWords Go.Proofs.YtgkgljendffhlaaDoorW.PrintLast Go.Proofs.YtgkgljendffhlaaDoorW.PrintMore
set_option linter.unusedVariables false
set_option linter.unusedSimpArgs false
def letP (c : UInt8) : Bool := (97 ≤ c && c ≤ 122) || (65 ≤ c && c ≤ 90) || (48 ≤ c && c ≤ 57)
theorem letterP (c : UInt8) : place_letter.f (c.toNat : Int) = some (letP c) := by
  have := all_bytes (p := fun n => place_letter.f (n : Int) = some (letP (UInt8.ofNat n))) (by decide +kernel) c
  simpa using this
theorem index_byte_f (s : ByteArray) (c : UInt8) : strings_IndexByte.f s (c.toNat : Int) = some (Lib.indexByte s.data.toList c) := by
  unfold strings_IndexByte.f
  simp
theorem index_neg (m : List UInt8) (c : UInt8) : Lib.indexByte m c < 0 ↔ m.contains c = false := by
  rcases byte_spec c m with ⟨h1, h2⟩ | ⟨a, b, rfl, h1, h2⟩
  · rw [h2]; simp [h1]
  · rw [h2]; simp <;> try omega
theorem only_loop (s : ByteArray) (hs : s.size ≤ 4611686018427387904) (m : List UInt8) (l : List UInt8) : ∀ i, Sfx s i l → Ev (fun k => place_only.l0 k s (il m) (s.size : Int) i) (l.all fun c => letP c || m.contains c) := by
  induction l with
  | nil =>
    intro i h
    refine ev_one fun k => ?_
    simp only [place_only.l0]; rw [if_neg h.stop]; rfl
  | cons c l ih =>
    intro i h
    have hib : strings_IndexByte.f (strOfNums (il m)) (c.toNat : Int) = some (Lib.indexByte m c) := by rw [strOf_il, index_byte_f]
    by_cases hl : letP c = true
    · refine ev_to _ (ev_rw (ih _ h.next) (by simp [List.all_cons, hl])) fun k => ?_
      simp only [place_only.l0]; rw [if_pos h.lt, if_pos h.ge, if_pos h.lt, h.bt, letterP, bind_some rfl, h.wrap hs, if_pos hl]
    · by_cases hm : m.contains c = true
      · refine ev_to _ (ev_rw (ih _ h.next) (by simp only [List.all_cons, hm, Bool.or_true, Bool.true_and])) fun k => ?_
        simp only [place_only.l0]; rw [if_pos h.lt, if_pos h.ge, if_pos h.lt, h.bt, letterP, bind_some rfl, if_neg hl, bind_some hib, if_neg (by rw [index_neg, hm]; decide), h.wrap hs]
      · have hm : m.contains c = false := by simpa using hm
        have hl2 : letP c = false := by simpa using hl
        refine ev_one fun k => ?_
        simp only [place_only.l0]; rw [if_pos h.lt, if_pos h.ge, if_pos h.lt, h.bt, letterP, bind_some rfl, if_neg hl, bind_some hib, if_pos ((index_neg m c).2 hm)]
        simp only [List.all_cons, hl2, hm, Bool.or_self, Bool.false_and]
theorem only_some (s : ByteArray) (hs : s.size ≤ 4611686018427387904) (m : List UInt8) : Ev (fun k => place_only.f k s (il m)) (s.data.toList.all fun c => letP c || m.contains c) :=
  only_loop s hs m _ 0 (Sfx.start s)
def hostB (c : UInt8) : Bool := letP c || ([45, 46] : List UInt8).contains c
/-- The host of a host's text. -/
def hostS (s : List UInt8) : Option (List UInt8) :=
  if (cutB 58 s).1 = [] ∨ 40 < (cutB 58 s).1.length ∨ (cutB 58 s).1.all hostB = false ∨ 5 < (cutB 58 s).2.1.length ∨ ((cutB 58 s).2.1 ≠ [] ∧ (numS (cutB 58 s).2.1).2 = false) then none
  else if (cutB 58 s).2.1 = [] ∨ (numS (cutB 58 s).2.1).1 = 80 then some (lowS (cutB 58 s).1) else some (lowS (cutB 58 s).1 ++ 58 :: decN (numS (cutB 58 s).2.1).1.toNat)
def resH : Option (List UInt8) → ByteArray × Int
  | some h => (⟨h.toArray⟩, 0)
  | none => (⟨#[]⟩, 25)
theorem numL_digits (l : List UInt8) : ∀ a, (∃ n, numL a l = some n) ↔ l.all digB = true := by
  induction l with
  | nil => intro a; simp [numL]
  | cons c l ih =>
    intro a
    rw [numL, List.all_cons]
    by_cases h : digB c = true
    · rw [if_pos h, ih, h, Bool.true_and]
    · have h' : digB c = false := by simpa using h
      rw [if_neg h, h']; simp
theorem dec_back (t : List UInt8) : t ≠ [] → t.all digB = true → t.head? ≠ some 48 → t.length ≤ 9 → ∃ n : Nat, numL 0 t = some (n : Int) ∧ 1 ≤ n ∧ n < 10 ^ t.length ∧ decN n = t := by
  refine snoc_ind (p := fun t => t ≠ [] → t.all digB = true → t.head? ≠ some 48 → t.length ≤ 9 → ∃ n : Nat, numL 0 t = some (n : Int) ∧ 1 ≤ n ∧ n < 10 ^ t.length ∧ decN n = t) (by simp) ?_ t
  intro l d ih _ hd hh hl
  rw [List.all_append, Bool.and_eq_true] at hd
  have hd2 : digB d = true := by simpa using hd.2
  have hb := dig_lo d hd2
  have hof : ∀ k : Nat, (d.toNat : Int) = 48 + k → UInt8.ofNat (48 + k) = d := fun k hk => by
    have : 48 + k = d.toNat := by omega
    rw [this]; simp
  by_cases h0 : l = []
  · subst h0
    have hne : (d.toNat : Int) ≠ 48 := by
      intro e
      apply hh
      have : d = 48 := UInt8.toNat_inj.1 (by show d.toNat = 48; omega)
      subst this; rfl
    obtain ⟨k, hk⟩ : ∃ k : Nat, (d.toNat : Int) = 48 + k := ⟨d.toNat - 48, by omega⟩
    have hf : far = 2147483648 := rfl
    refine ⟨k, ?_, by omega, by simp; omega, ?_⟩
    · simp only [List.nil_append, numL, if_pos hd2]
      rw [show (10 * 0 + ((d.toNat : Int) - 48)) = k from by omega]
      congr 1; unfold mn; split <;> omega
    · rw [decN_lo k (by omega), hof k hk]; rfl
  · obtain ⟨n, h1, h2, h3, h4⟩ := ih h0 hd.1 (by cases l with | nil => exact absurd rfl h0 | cons x l => simpa using hh) (by simp at hl; omega)
    obtain ⟨k, hk⟩ : ∃ k : Nat, (d.toNat : Int) = 48 + k := ⟨d.toNat - 48, by omega⟩
    have hlt : l.length ≤ 8 := by simp at hl; omega
    have hn8 : n < 100000000 := Nat.lt_of_lt_of_le h3 (Nat.pow_le_pow_right (by decide) hlt)
    have hf : far = 2147483648 := rfl
    refine ⟨10 * n + k, ?_, by omega, ?_, ?_⟩
    · rw [numL_app, h1]
      simp only [Option.bind_some, numL, if_pos hd2]
      rw [show (10 * (n : Int) + ((d.toNat : Int) - 48)) = ((10 * n + k : Nat) : Int) from by omega]
      congr 1; unfold mn; split <;> omega
    · rw [List.length_append, List.length_singleton, Nat.pow_succ]; omega
    · rw [decN_hi _ (by omega), show (10 * n + k) / 10 = n from by omega, show (10 * n + k) % 10 = k from by omega, h4, hof k hk]
theorem drop_zeros : ∀ l : List UInt8, ∃ z, l = List.replicate z 48 ++ l.dropWhile (· == 48) ∧ (l.dropWhile (· == 48)).head? ≠ some 48
  | [] => ⟨0, rfl, by simp⟩
  | c :: l => by
    by_cases h : c = 48
    · subst h
      obtain ⟨z, h1, h2⟩ := drop_zeros l
      refine ⟨z + 1, ?_, by simpa using h2⟩
      rw [List.replicate_succ, List.cons_append]
      simp only [List.dropWhile_cons, BEq.rfl, if_true]
      rw [← h1]
    · have hb : (c == 48) = false := by simpa using h
      refine ⟨0, by simp [List.dropWhile_cons, hb], by simp [List.dropWhile_cons, hb, h]⟩
/-- A port's digits without noughts ahead. -/
theorem port_text (l : List UInt8) (h0 : l ≠ []) (hl : l.length ≤ 5) (hd : l.all digB = true) : (if l.dropWhile (· == 48) = [] then [48] else l.dropWhile (· == 48)) = decN (numS l).1.toNat := by
  obtain ⟨z, h1, h2⟩ := drop_zeros l
  generalize ht : l.dropWhile (· == 48) = t at *
  have hn : numL 0 l = numL 0 t := by rw [h1, numL_zeros]
  by_cases htn : t = []
  · rw [if_pos htn]
    subst htn
    have : numS l = (0, !l.isEmpty) := by unfold numS; rw [hn]; rfl
    rw [this]
    show [48] = decN 0
    rw [decN_lo 0 (by omega)]
    rfl
  · rw [if_neg htn]
    obtain ⟨n, q1, q2, q3, q4⟩ := dec_back t htn (by rw [h1, List.all_append, Bool.and_eq_true] at hd; exact hd.2) h2 (by have := congrArg List.length h1; simp at this; omega)
    have : numS l = ((n : Int), !l.isEmpty) := by unfold numS; rw [hn, q1]
    rw [this]
    exact q4.symm
theorem cut_f (c : UInt8) (s : ByteArray) (hs : s.size < 4294967281) : strings_Cut.f s ⟨#[c]⟩ = some (⟨(cutB c s.data.toList).1.toArray⟩, ⟨(cutB c s.data.toList).2.1.toArray⟩, (cutB c s.data.toList).2.2) := by
  unfold strings_Cut.f
  rw [if_pos hs, show (⟨#[c]⟩ : ByteArray).data.toList = [c] from rfl, cut_eq]
theorem numS_snd (l : List UInt8) (h : (numS l).2 = true) : l ≠ [] ∧ l.all digB = true := by
  unfold numS at h
  cases hn : numL 0 l with
  | none => rw [hn] at h; cases h
  | some n =>
    rw [hn] at h
    exact ⟨by intro e; subst e; simp at h, (numL_digits l 0).1 ⟨n, hn⟩⟩
theorem trim_left_f (s : ByteArray) : strings_TrimLeft.f s ⟨#[48]⟩ = some ⟨(s.data.toList.dropWhile (· == 48)).toArray⟩ := by
  unfold strings_TrimLeft.f
  simp only [show (⟨#[48]⟩ : ByteArray).data.toList = [48] from rfl]
  rw [if_pos (by decide)]
  rfl
theorem host_j1 (name num : List UInt8) (hn : name.length ≤ 40) (h5 : num.length ≤ 5) (b : Bool) (hb : b = false → num ≠ [] ∧ num.all digB = true) : Ev (fun k => place_Host.j1 k ⟨name.toArray⟩ ⟨num.toArray⟩ b) (resH (some (if b = true then name else name ++ 58 :: decN (numS num).1.toNat))) := by
  refine ev_one fun k => ?_
  simp only [place_Host.j1]
  cases b with
  | true => rw [if_pos rfl, if_pos rfl]; rfl
  | false =>
    obtain ⟨h0, hd⟩ := hb rfl
    have hp := port_text num h0 h5 hd
    rw [if_neg (by decide), trim_left_f, bind_some rfl, tl, mk_data, if_neg Bool.false_ne_true, mk_size]
    by_cases ht : num.dropWhile (· == 48) = []
    · rw [if_pos ht] at hp ⊢
      rw [← hp, if_pos (by omega), if_pos (by rw [sz, data_app]; simp; omega)]
      simp only [resH, Option.some.injEq, Prod.mk.injEq, and_true]
      exact ba_ext (by rw [data_app, data_app]; simp)
    · rw [if_neg ht] at hp ⊢
      have hdl : (num.dropWhile (· == 48)).length ≤ num.length := List.Sublist.length_le (List.dropWhile_sublist _)
      rw [← hp, if_pos (by omega), if_pos (by rw [sz, data_app, mk_size]; simp; omega)]
      simp only [resH, Option.some.injEq, Prod.mk.injEq, and_true]
      exact ba_ext (by rw [data_app, data_app]; simp)
theorem host_j0t (a b : ByteArray) (n : Int) : Ev (fun k => place_Host.j0 k a b n true) (resH none) :=
  ev_one fun k => by simp only [place_Host.j0]; rw [if_pos trivial]; rfl
theorem host_j0f (name num : List UInt8) (hn : name.length ≤ 40) (h5 : num.length ≤ 5) (hd : num ≠ [] → (numS num).2 = true) : Ev (fun k => place_Host.j0 k ⟨name.toArray⟩ ⟨num.toArray⟩ (numS num).1 false) (resH (some (if num = [] ∨ (numS num).1 = 80 then lowS name else lowS name ++ 58 :: decN (numS num).1.toNat))) := by
  have hl := lower_sign ⟨name.toArray⟩ (by rw [mk_size]; omega)
  rw [mk_data] at hl
  have key : ∀ b : Bool, (b = true ↔ (num = [] ∨ (numS num).1 = 80)) → Ev (fun k => place_Host.j1 k ⟨(lowS name).toArray⟩ ⟨num.toArray⟩ b) (resH (some (if num = [] ∨ (numS num).1 = 80 then lowS name else lowS name ++ 58 :: decN (numS num).1.toNat))) := by
    intro b hb
    have := host_j1 (lowS name) num (by rw [lowS_length]; exact hn) h5 b (by
      intro e
      have h0 : num ≠ [] := by intro e2; have := hb.2 (.inl e2); rw [e] at this; cases this
      exact ⟨h0, (numS_snd num (hd h0)).2⟩)
    refine ev_rw this ?_
    by_cases h : num = [] ∨ (numS num).1 = 80
    · rw [if_pos h, if_pos (hb.2 h)]
    · rw [if_neg h, if_neg (fun e => h (hb.1 e))]
  by_cases h0 : num = []
  · refine ev_to _ (key true (by simp [h0])) fun k => ?_
    simp only [place_Host.j0]
    rw [if_neg (by decide), bind_some hl, tl, mk_data, if_pos h0]
  · refine ev_to _ (key ((numS num).1 == 80) (by simp [h0])) fun k => ?_
    simp only [place_Host.j0]
    rw [if_neg (by decide), bind_some hl, tl, mk_data, if_neg h0]
theorem host_prog (s : ByteArray) (hs : s.size < 4294967281) : Ev (fun k => place_Host.f k s) (resH (hostS s.data.toList)) := by
  unfold place_Host.f hostS
  have hcl := cutB_len 58 s.data.toList
  rw [cut_f 58 s hs]
  simp only [Option.bind_some]
  generalize (cutB 58 s.data.toList).1 = name at *
  generalize (cutB 58 s.data.toList).2.1 = num at *
  have hsz := sz s
  have hnum := number_sign ⟨num.toArray⟩ (by rw [mk_size]; omega)
  rw [mk_data] at hnum
  refine ev_bind hnum ?_
  rw [tl, mk_data, mk_size, mk_size, tl, mk_data]
  by_cases h1 : name = []
  · simp only [h1, if_true, true_or]; exact host_j0t _ _ _
  simp only [h1, if_false, false_or]
  by_cases h2 : (name.length : Int) > 40
  · have h2' : 40 < name.length := by omega
    simp only [h2, h2', if_true, true_or]; exact host_j0t _ _ _
  have h2' : ¬ 40 < name.length := by omega
  simp only [h2, h2', if_false, false_or]
  have ho := only_some ⟨name.toArray⟩ (by rw [mk_size]; omega) [45, 46]
  rw [mk_data] at ho
  refine ev_bind ho ?_
  have hall : (name.all fun c => letP c || ([45, 46] : List UInt8).contains c) = name.all hostB := rfl
  rw [hall]
  by_cases h3 : name.all hostB = true
  · have h3' : ¬ name.all hostB = false := by rw [h3]; decide
    simp only [h3, h3', if_true, false_or]
    by_cases h4 : (num.length : Int) > 5
    · have h4' : 5 < num.length := by omega
      simp only [h4, h4', if_true, true_or]; exact host_j0t _ _ _
    have h4' : ¬ 5 < num.length := by omega
    simp only [h4, h4', if_false, false_or]
    by_cases h5 : num = []
    · simp only [h5, if_true, ne_eq, not_true, false_and, if_false, true_or]
      have := host_j0f name [] (by omega) (by simp) (by simp)
      simpa using this
    · simp only [h5, if_false, ne_eq, not_false_eq_true, true_and, false_or]
      cases hb : (numS num).2 with
      | true =>
        simp only [Bool.not_true, Bool.true_eq_false, if_false]
        have := host_j0f name num (by omega) (by omega) (fun _ => hb)
        simp only [h5, false_or] at this
        refine ev_rw this ?_
        split <;> rfl
      | false => simp only [Bool.not_false, if_true]; exact host_j0t _ _ _
  · have h3' : name.all hostB = false := by simpa using h3
    simp only [h3', Bool.false_eq_true, if_false, true_or, if_true]
    exact host_j0t _ _ _
end Go.Proofs.YtgkgljendffhlaaDoor.Pure
namespace Go.Proofs.YtgkgljendffhlaaDoor.Pure
open Go.RowKit Go.Proofs.YtgkgljendffhlaaDoor.P Go.Proofs.YtgkgljendffhlaaDoorW.PrintWords Go.Proofs.YtgkgljendffhlaaDoorW.PrintLast Go.Proofs.YtgkgljendffhlaaDoorW.PrintMore
set_option linter.unusedVariables false
set_option linter.unusedSimpArgs false
/-- A hexadecimal digit's value; -1: it is none. -/
def hv (c : UInt8) : Int := if 48 ≤ (c.toNat : Int) ∧ (c.toNat : Int) ≤ 57 then (c.toNat : Int) - 48 else if 97 ≤ (c.toNat : Int) ∧ (c.toNat : Int) ≤ 102 then (c.toNat : Int) - 87 else if 65 ≤ (c.toNat : Int) ∧ (c.toNat : Int) ≤ 70 then (c.toNat : Int) - 55 else -1
theorem hv_lt (c : UInt8) : -1 ≤ hv c ∧ hv c < 16 := by
  have := all_bytes (p := fun n => -1 ≤ hv (UInt8.ofNat n) ∧ hv (UInt8.ofNat n) < 16) (by decide +kernel) c
  simpa using this
theorem digit_prog (c : UInt8) : place_digit.f (c.toNat : Int) = some (hv c) := by
  have := all_bytes (p := fun n => place_digit.f (n : Int) = some (hv (UInt8.ofNat n))) (by decide +kernel) c
  simpa using this
def upH (n : Nat) : UInt8 := if n < 10 then UInt8.ofNat (48 + n) else UInt8.ofNat (55 + n)
def badB (c : UInt8) : Bool := c ≤ 32 || 127 ≤ c || c == 35
def plainB (c : UInt8) : Bool := letP c || ([45, 46, 95, 126] : List UInt8).contains c
def hexN2 (a b : UInt8) : UInt8 := UInt8.ofNat (16 * (hv a).toNat + (hv b).toNat)
def encB (n : UInt8) : List UInt8 := if plainB n then [n] else [37, upH (n.toNat / 16), upH (n.toNat % 16)]
/-- A text, cleaned; none: it can't be. -/
def cleanL : List UInt8 → Option (List UInt8)
  | [] => some []
  | c :: l => if badB c then none else if c = 37 then (match l with
      | a :: b :: r => if 0 ≤ hv a ∧ 0 ≤ hv b then (cleanL r).map (encB (hexN2 a b) ++ ·) else none
      | _ => none) else (cleanL l).map (c :: ·)
termination_by l => l.length
def resC : Option (List UInt8) → ByteArray × Bool
  | some x => (⟨x.toArray⟩, true)
  | none => (⟨#[]⟩, false)
theorem bad_iff (c : UInt8) : badB c = true ↔ (c.toNat : Int) ≤ 32 ∨ 127 ≤ (c.toNat : Int) ∨ (c.toNat : Int) = 35 := by
  have := all_bytes (p := fun n => (badB (UInt8.ofNat n) = true ↔ (n : Int) ≤ 32 ∨ 127 ≤ (n : Int) ∨ (n : Int) = 35)) (by decide +kernel) c
  simpa using this
theorem is37 (c : UInt8) : (c.toNat : Int) = 37 ↔ c = 37 := by
  have := all_bytes (p := fun n => ((n : Int) = 37 ↔ UInt8.ofNat n = 37)) (by decide +kernel) c
  simpa using this
theorem cleanL_bad (c : UInt8) (l : List UInt8) (h : badB c = true) : cleanL (c :: l) = none := by rw [cleanL.eq_def]; simp only [h, if_true]
theorem cleanL_char (c : UInt8) (l : List UInt8) (h : ¬ badB c = true) (h2 : c ≠ 37) : cleanL (c :: l) = (cleanL l).map (c :: ·) := by
  have h' : badB c = false := by simpa using h
  rw [cleanL.eq_def]; simp only [h', h2, if_false, Bool.false_eq_true]
theorem bad37 : badB 37 = false := by decide
theorem cleanL_nil : cleanL [] = some [] := by rw [cleanL.eq_def]
theorem cleanL_hex (a b : UInt8) (r : List UInt8) : cleanL (37 :: a :: b :: r) = if 0 ≤ hv a ∧ 0 ≤ hv b then (cleanL r).map (encB (hexN2 a b) ++ ·) else none := by rw [cleanL.eq_def]; simp only [bad37, if_true, if_false, Bool.false_eq_true]
theorem cleanL_short1 : cleanL [37] = none := by rw [cleanL.eq_def]; simp only [bad37, if_true, if_false, Bool.false_eq_true]
theorem cleanL_short2 (a : UInt8) : cleanL [37, a] = none := by rw [cleanL.eq_def]; simp only [bad37, if_true, if_false, Bool.false_eq_true]
theorem hex_facts : ∀ a b : Nat, a < 16 → b < 16 → Go.bits .or .i64 (wrap64 ((a : Int) * 16)) (b : Int) = 16 * (a : Int) + (b : Int) ∧ Go.bits .and .i64 (16 * (a : Int) + (b : Int)) 15 = (b : Int) := by
  have : ∀ a : Nat, a < 16 → ∀ b : Nat, b < 16 → Go.bits .or .i64 (wrap64 ((a : Int) * 16)) ((b : Nat) : Int) = 16 * ((a : Nat) : Int) + (b : Int) ∧ Go.bits .and .i64 (16 * (a : Int) + (b : Int)) 15 = (b : Int) := by decide +kernel
  intro a b ha hb
  exact this a ha b hb
theorem great_at (n : Nat) (h : n < 16) : bt (⟨#[48, 49, 50, 51, 52, 53, 54, 55, 56, 57, 65, 66, 67, 68, 69, 70]⟩ : ByteArray) (n : Int) = ((upH n).toNat : Int) := by
  have : ∀ n, n < 16 → bt (⟨#[48, 49, 50, 51, 52, 53, 54, 55, 56, 57, 65, 66, 67, 68, 69, 70]⟩ : ByteArray) ((n : Nat) : Int) = ((upH n).toNat : Int) := by decide +kernel
  exact this n h
theorem hexN2_nat (a b : UInt8) (ha : 0 ≤ hv a) (hb : 0 ≤ hv b) : ((hexN2 a b).toNat : Int) = 16 * hv a + hv b := by
  have := hv_lt a; have := hv_lt b
  unfold hexN2
  show ((((16 * (hv a).toNat + (hv b).toNat) % 256 : Nat)) : Int) = _
  omega
theorem hexN2_split (a b : UInt8) (ha : 0 ≤ hv a) (hb : 0 ≤ hv b) : ∃ x y : Nat, x < 16 ∧ y < 16 ∧ hv a = x ∧ hv b = y ∧ (hexN2 a b).toNat = 16 * x + y := by
  have h1 := hv_lt a; have h2 := hv_lt b
  have h3 := hexN2_nat a b ha hb
  exact ⟨(hv a).toNat, (hv b).toNat, by omega, by omega, by omega, by omega, by omega⟩
theorem clean_j2 (s : ByteArray) (hs : s.size ≤ 1000000) (i : Int) (out : List UInt8) (a b : UInt8) (h0 : 0 ≤ i) (hle : i + 3 ≤ (s.size : Int)) (b1 : bt s (i + 1) = (a.toNat : Int)) (b2 : bt s (i + 2) = (b.toNat : Int)) (ha : 0 ≤ hv a) (hb : 0 ≤ hv b) (hout : out.length < 20000000) (k : Nat)
    (q1 : place_only.f k (⟨#[hexN2 a b]⟩ : ByteArray) (il [45, 46, 95, 126]) = some (plainB (hexN2 a b))) : place_clean.j2 (k + 1) s (il out) i false = place_clean.l0 k s (il (out ++ encB (hexN2 a b))) (i + 3) := by
  obtain ⟨x, y, hx16, hy16, hx, hy, hN16⟩ := hexN2_split a b ha hb
  generalize hexN2 a b = N at *
  have p0 : 0 ≤ i + 1 := by omega
  have p1 : i + 1 < (s.size : Int) := by omega
  have p2 : 0 ≤ i + 2 := by omega
  have p3 : i + 2 < (s.size : Int) := by omega
  have p4 : (il out).length < 140737488355328 := by rw [il_length]; omega
  have p5 : (il out).length + ([37, ((upH x).toNat : Int), ((upH y).toNat : Int)] : List Int).length < 140737488355328 := by rw [il_length]; simp; omega
  have hN : (N.toNat : Int) = 16 * (x : Int) + (y : Int) := by omega
  have h256 : (N.toNat : Int) % 256 = (N.toNat : Int) := by omega
  have hd16 : (N.toNat : Int) / 16 = ((x : Nat) : Int) := by omega
  have e1 : N.toNat / 16 = x := by omega
  have e2 : N.toNat % 16 = y := by omega
  have p6 : (0 : Int) ≤ (x : Int) := by omega
  have p7 : (x : Int) < 16 := by omega
  have p8 : (0 : Int) ≤ (y : Int) := by omega
  have p9 : (y : Int) < 16 := by omega
  have w1 : wrap64 (i + 1) = i + 1 := wrap_id (by omega) (by omega)
  have w2 : wrap64 (i + 2) = i + 2 := wrap_id (by omega) (by omega)
  have w3 : wrap64 (i + 2 + 1) = i + 3 := by rw [wrap_id (by omega) (by omega)]; omega
  have hg1 := great_at x hx16
  have hg2 := great_at y hy16
  obtain ⟨f1, f2⟩ := hex_facts x y hx16 hy16
  have hor : (Go.bits .or .i64 (wrap64 (hv a * 16)) (hv b)) = (N.toNat : Int) := by rw [hx, hy, f1, hN]
  have hand : Go.bits .and .i64 (N.toNat : Int) 15 = (y : Int) := by rw [hN]; exact f2
  have hone : strOfNums ([(N.toNat : Int)] : List Int) = ⟨#[N]⟩ := strOf_il [N]
  have hil4 : ([45, 46, 95, 126] : List Int) = il [45, 46, 95, 126] := rfl
  simp only [place_clean.j2]
  rw [if_neg Bool.false_ne_true, w1, if_pos p0, if_pos p1, b1, digit_prog, bind_some rfl, w2, if_pos p2, if_pos p3, b2, digit_prog, bind_some rfl, hor, h256, hone, hil4, bind_some q1, w3]
  by_cases hp : plainB N = true
  · have hE : encB N = [N] := by unfold encB; rw [if_pos hp]
    rw [hE, il_app, hp, if_pos rfl, if_pos p4]
    rfl
  · have hp' : plainB N = false := by simpa using hp
    have hE : encB N = [37, upH x, upH y] := by
      unfold encB
      rw [if_neg hp, e1, e2]
    rw [hE, il_app, hp', if_neg Bool.false_ne_true, hand, hd16, if_pos p6, if_pos p7, if_pos p8, if_pos p9]
    simp only [Option.bind_some]
    rw [hg1, hg2, if_pos p5]
    rfl
theorem res_map {x : Option (List UInt8)} {a b : List UInt8} : (x.map (a ++ ·)).map (b ++ ·) = x.map ((b ++ a) ++ ·) := by cases x <;> simp
theorem clean_loop (s : ByteArray) (hs : s.size ≤ 1000000) (n : Nat) : ∀ l : List UInt8, l.length ≤ n → ∀ (i : Int) (out : List UInt8), Sfx s i l → out.length + 3 * l.length ≤ 10000000 → Ev (fun k => place_clean.l0 k s (il out) i) (resC ((cleanL l).map (out ++ ·))) := by
  induction n with
  | zero =>
    intro l hl i out h ho
    have : l = [] := List.length_eq_zero_iff.1 (by omega)
    subst this
    refine ev_one fun k => ?_
    simp only [place_clean.l0]; rw [if_neg h.stop, strOf_il, cleanL_nil]; simp [resC]
  | succ n ih =>
    intro l hl i out h ho
    match l, hl, h, ho with
    | [], _, h, _ =>
      refine ev_one fun k => ?_
      simp only [place_clean.l0]; rw [if_neg h.stop, strOf_il, cleanL_nil]; simp [resC]
    | c :: l, hl, h, ho =>
      have hge := h.ge; have hlt := h.lt
      by_cases hb : badB c = true
      · rw [cleanL_bad c l hb]
        have hb2 := (bad_iff c).1 hb
        refine ev_mk 2 fun k => ?_
        have hj : ∀ b, place_clean.j1 (k + 1) s (il out) i b true = some (resC none) := fun b => by simp only [place_clean.j1]; rw [if_pos trivial]; rfl
        simp only [place_clean.l0]
        rw [if_pos h.lt, if_pos h.ge, h.bt]
        show _ = some (resC none)
        by_cases h1 : (c.toNat : Int) ≤ 32
        · rw [if_pos h1, hj]
        · rw [if_neg h1]
          by_cases h2 : (c.toNat : Int) ≥ 127
          · rw [if_pos h2, hj]
          · rw [if_neg h2]
            have h3 : ((c.toNat : Int) == 35) = true := by rw [beq_iff_eq]; omega
            rw [h3, hj]
      · have hb2 : ¬ ((c.toNat : Int) ≤ 32 ∨ 127 ≤ (c.toNat : Int) ∨ (c.toNat : Int) = 35) := fun e => hb ((bad_iff c).2 e)
        have e0 : ∀ k, place_clean.l0 (k + 1) s (il out) i = place_clean.j1 k s (il out) i (c.toNat : Int) false := fun k => by
          simp only [place_clean.l0]
          rw [if_pos h.lt, if_pos h.ge, h.bt, if_neg (by omega), if_neg (by omega)]
          have h3 : ((c.toNat : Int) == 35) = false := by rw [beq_eq_false_iff_ne]; omega
          rw [h3]
        refine ev_to _ ?_ e0
        by_cases hc : c = 37
        · subst hc
          have h37 : (((37 : UInt8).toNat : Nat) : Int) = 37 := rfl
          match l, hl, h, ho with
          | [], _, h, _ =>
            rw [cleanL_short1]
            have hle := h.le
            simp at hle
            refine ev_mk 2 fun k => ?_
            simp only [place_clean.j1]
            rw [if_neg (by decide), if_pos h37, wrap_id (by omega) (by omega), if_pos (by omega)]
            simp only [place_clean.j2]; rfl
          | [a], _, h, _ =>
            rw [cleanL_short2]
            have hle := h.le
            simp at hle
            refine ev_mk 2 fun k => ?_
            simp only [place_clean.j1]
            rw [if_neg (by decide), if_pos h37, wrap_id (by omega) (by omega), if_pos (by omega)]
            simp only [place_clean.j2]; rfl
          | a :: b :: r, hl, h, ho =>
            have ha := h.next; have hbb := ha.next; have hr := hbb.next
            have hle := h.le
            simp at hle
            have w1 : wrap64 (i + 1) = i + 1 := wrap_id (by omega) (by omega)
            have w2 : wrap64 (i + 2) = i + 2 := wrap_id (by omega) (by omega)
            have w3 : wrap64 (i + 2 + 1) = i + 3 := by rw [wrap_id (by omega) (by omega)]; omega
            have hr3 : Sfx s (i + 3) r := by have := hr; rw [show i + 1 + 1 + 1 = i + 3 from by omega] at this; exact this
            have b1 : bt s (i + 1) = (a.toNat : Int) := ha.bt
            have b2 : bt s (i + 2) = (b.toNat : Int) := by have := hbb.bt; rwa [show i + 1 + 1 = i + 2 from by omega] at this
            rw [cleanL_hex]
            have hva := hv_lt a; have hvb := hv_lt b
            by_cases hn : hv a < 0
            · rw [if_neg (by omega)]
              refine ev_mk 2 fun k => ?_
              simp only [place_clean.j1]
              rw [if_neg (by decide), if_pos h37, wrap_id (x := (s.size : Int) - i) (by omega) (by omega), if_neg (by omega), w1, if_pos (by omega), if_pos (by omega), b1, digit_prog, bind_some rfl, if_pos hn]
              simp only [place_clean.j2]; rfl
            · by_cases hm : hv b < 0
              · rw [if_neg (by omega)]
                refine ev_mk 2 fun k => ?_
                simp only [place_clean.j1]
                rw [if_neg (by decide), if_pos h37, wrap_id (x := (s.size : Int) - i) (by omega) (by omega), if_neg (by omega), w1, if_pos (by omega), if_pos (by omega), b1, digit_prog, bind_some rfl, if_neg hn, w2, if_pos (by omega), if_pos (by omega), b2, digit_prog, bind_some rfl]
                rw [decide_eq_true hm]
                simp only [place_clean.j2]; rfl
              · rw [if_pos ⟨by omega, by omega⟩, res_map]
                have honly := only_some ⟨#[hexN2 a b]⟩ (by rw [show (⟨#[hexN2 a b]⟩ : ByteArray).size = 1 from rfl]; omega) [45, 46, 95, 126]
                have hpl : ((⟨#[hexN2 a b]⟩ : ByteArray).data.toList.all fun c => letP c || ([45, 46, 95, 126] : List UInt8).contains c) = plainB (hexN2 a b) := by
                  show ([hexN2 a b].all fun c => letP c || ([45, 46, 95, 126] : List UInt8).contains c) = plainB (hexN2 a b)
                  rw [List.all_cons, List.all_nil, Bool.and_true]; rfl
                rw [hpl] at honly
                have hih := ih r (by simp at hl; omega) (i + 3) (out ++ encB (hexN2 a b)) hr3 (by simp at ho; unfold encB; split <;> simp <;> omega)
                obtain ⟨K1, hK1⟩ := honly
                obtain ⟨K2, hK2⟩ := hih
                have hj2 : ∀ k, K1 ≤ k → place_clean.j2 (k + 1) s (il out) i false = place_clean.l0 k s (il (out ++ encB (hexN2 a b))) (i + 3) := fun k hk => clean_j2 s hs i out a b hge (by omega) b1 b2 (by omega) (by omega) (by simp at ho; omega) k (hK1 k hk)
                refine ⟨K1 + K2 + 2, fun k hk => ?_⟩
                obtain ⟨k, rfl⟩ : ∃ m, k = m + 2 := ⟨k - 2, by omega⟩
                have q2 := hK2 k (by omega)
                simp only at q2
                simp only [place_clean.j1]
                rw [if_neg (by decide), if_pos h37, wrap_id (x := (s.size : Int) - i) (by omega) (by omega), if_neg (by omega), w1, if_pos (by omega), if_pos (by omega), b1, digit_prog, bind_some rfl, if_neg hn, w2, if_pos (by omega), if_pos (by omega), b2, digit_prog, bind_some rfl, decide_eq_false hm, hj2 k (by omega)]
                exact q2
        · rw [cleanL_char c l hb hc]
          have hih := ih l (by simp at hl; omega) (i + 1) (out ++ [c]) h.next (by simp at ho ⊢; omega)
          rw [show ((cleanL l).map (c :: ·)).map (out ++ ·) = (cleanL l).map ((out ++ [c]) ++ ·) from by cases cleanL l <;> simp]
          refine ev_to _ hih fun k => ?_
          simp only [place_clean.j1]
          rw [if_neg (by decide), if_neg (fun e => hc ((is37 c).1 e)), if_pos (by rw [il_length]; simp at ho; omega), h.wrap (by omega), il_app]
          rfl
theorem clean_prog (s : ByteArray) (hs : s.size ≤ 1000000) : Ev (fun k => place_clean.f k s) (resC (cleanL s.data.toList)) := by
  have := clean_loop s hs _ s.data.toList (Nat.le_refl _) 0 [] (Sfx.start s) (by have := sz s; simp; omega)
  refine ev_rw this ?_
  congr 1
  cases cleanL s.data.toList <;> simp
end Go.Proofs.YtgkgljendffhlaaDoor.Pure
namespace Go.Proofs.YtgkgljendffhlaaDoor.Pure
open Go.RowKit Go.Proofs.YtgkgljendffhlaaDoor.P Go.Proofs.YtgkgljendffhlaaDoorW.PrintWords Go.Proofs.YtgkgljendffhlaaDoorW.PrintLast Go.Proofs.YtgkgljendffhlaaDoorW.PrintMore
set_option linter.unusedVariables false
set_option linter.unusedSimpArgs false
theorem drop_head {α : Type} {L : List α} {i : Nat} {s : α} {r : List α} (hd : L.drop i = s :: r) (h : i < L.length) : L[i] = s ∧ L.drop (i + 1) = r := by
  have := List.drop_eq_getElem_cons h
  rw [hd] at this
  exact ⟨(List.cons.inj this).1.symm, (List.cons.inj this).2.symm⟩
def mkP (l : List UInt8) : ByteArray := ⟨l.toArray⟩
/-- A path's pieces, dots walked. -/
def pathGo (out : List (List UInt8)) : List (List UInt8) → List (List UInt8)
  | [] => out
  | s :: r => if s = [46, 46] then pathGo (if r = [] then out.dropLast ++ [[]] else out.dropLast) r else if s = [46] then pathGo (if r = [] then out ++ [[]] else out) r else pathGo (out ++ [s]) r
def pathS (s : List UInt8) : List UInt8 := 47 :: joinOn 47 (pathGo [] (splitOn 47 (s.drop 1)))
theorem joinOn_nil (c : UInt8) : joinOn c [] = [] := rfl
theorem join_cat (c : UInt8) (l : List (List UInt8)) : ∀ x, c :: joinOn c (x :: l) = (x :: l).flatMap (c :: ·) := by
  induction l with
  | nil => intro x; simp [joinOn_one]
  | cons y l ih => intro x; rw [joinOn_cons]; have := ih y; rw [List.flatMap_cons, ← this]; rfl
theorem join_le (c : UInt8) (M : Nat) (l : List (List UInt8)) (h : ∀ p ∈ l, p.length ≤ M) : (joinOn c l).length ≤ l.length * (M + 1) := by
  induction l with
  | nil => simp [joinOn_nil]
  | cons x l ih =>
    have hx := h x (by simp)
    have := ih (fun p hp => h p (by simp [hp]))
    cases l with
    | nil => rw [joinOn_one]; simp; omega
    | cons y l =>
      rw [joinOn_cons, List.length_append, List.length_cons]
      simp only [List.length_cons] at this ⊢
      rw [Nat.add_mul _ 1, Nat.one_mul]
      omega
theorem rd_at (l : List ByteArray) (i : Nat) (h : i < l.length) : rdOf ByteArray.empty l (i : Int) = l[i] := by
  simp [rdOf, List.getD, h]
theorem take_len (l : List ByteArray) (h : l.length ≤ 1099511627776) : (mx (wrap64 ((l.length : Int) - 1)) 0) = ((l.length - 1 : Nat) : Int) := by
  rw [wrap_id (by omega) (by omega)]; unfold mx; split <;> omega
theorem map_mk (l : List (List UInt8)) : (l.map mkP).map (·.data.toList) = l := by
  rw [List.map_map]; conv => rhs; rw [← List.map_id l]
  exact List.map_congr_left fun a _ => rfl
/-- The program's walk over the pieces. -/
theorem path_loop (L : List (List UInt8)) (hL : L.length ≤ 1000002) (hM : ∀ p ∈ L, p.length ≤ 1000000) (r : List (List UInt8)) : ∀ (i : Nat) (out : List (List UInt8)), i + r.length = L.length → L.drop i = r → out.length ≤ i → (∀ p ∈ out, p.length ≤ 1000000) →
    Ev (fun k => place_path.l0 k (out.map mkP) (L.map mkP) (L.map mkP) (L.length : Int) (i : Int)) ⟨(47 :: joinOn 47 (pathGo out r)).toArray⟩ := by
  induction r with
  | nil =>
    intro i out hi hd ho hp
    simp only [List.length_nil] at hi
    have hj := join_le 47 1000000 out hp
    have hj2 : out.length * (1000000 + 1) ≤ 1000002 * (1000000 + 1) := Nat.mul_le_mul_right _ (by omega)
    have e1 : strings_Join.f (out.map mkP) (⟨#[47]⟩ : ByteArray) = some ⟨(joinOn 47 out).toArray⟩ := by
      unfold strings_Join.f
      rw [map_mk, show (⟨#[47]⟩ : ByteArray).data.toList = [47] from rfl, if_pos ⟨by rw [List.length_map]; omega, by show (joinOn 47 out).length ≤ _; omega⟩]
      rfl
    refine ev_one fun k => ?_
    simp only [place_path.l0]
    rw [if_neg (by omega), bind_some e1, mk_size, if_pos (by omega)]
    exact congrArg some (ba_ext (by rw [data_app]; rfl))
  | cons s r ih =>
    intro i out hi hd ho hp
    simp only [List.length_cons] at hi
    have hlt : i < L.length := by omega
    obtain ⟨hLi, hd2⟩ := drop_head hd hlt
    have hrd : rdOf ByteArray.empty (L.map mkP) (i : Int) = mkP s := by rw [rd_at _ i (by simpa using hlt)]; simp [hLi]
    have hsl : s.length ≤ 1000000 := hM s (by rw [← hLi]; exact List.getElem_mem hlt)
    have hw : wrap64 ((i : Int) + 1) = ((i + 1 : Nat) : Int) := by rw [wrap_id (by omega) (by omega)]; omega
    have hlast : wrap64 (((L.map mkP).length : Int) - 1) = ((L.length - 1 : Nat) : Int) := by rw [List.length_map, wrap_id (by omega) (by omega)]; omega
    have hrn : ((i : Int) = ((L.length - 1 : Nat) : Int)) ↔ r = [] := by
      constructor
      · intro e; exact List.length_eq_zero_iff.1 (by omega)
      · intro e; subst e; simp at hi; omega
    have hlm : (L.map mkP).length = L.length := List.length_map _
    have hsd : (mkP s).toList = s := tl _
    have hda : ∀ p ∈ out.dropLast, p.length ≤ 1000000 := fun p hq => hp p (List.dropLast_subset out hq)
    have hnil : ∀ l : List (List UInt8), (∀ p ∈ l, p.length ≤ 1000000) → ∀ p ∈ l ++ [[]], p.length ≤ 1000000 := fun l hl p hq => by
      rcases List.mem_append.1 hq with hq | hq
      · exact hl p hq
      · simp at hq; subst hq; simp
    have hds : ∀ l : List (List UInt8), l.map mkP ++ [(⟨#[]⟩ : ByteArray)] = (l ++ [[]]).map mkP := fun l => by rw [List.map_append]; rfl
    rw [pathGo]
    by_cases h2 : s = [46, 46]
    · rw [if_pos h2]
      have htk : (out.map mkP).take ((out.length - 1 : Nat) : Int).toNat = out.dropLast.map mkP := by
        rw [List.dropLast_eq_take, List.map_take, Int.toNat_natCast]
      have hml : (mx (wrap64 (((out.map mkP).length : Int) - 1)) 0) = ((out.length - 1 : Nat) : Int) := by rw [take_len _ (by rw [List.length_map]; omega), List.length_map]
      have hpos : (0 : Int) ≤ ((out.length - 1 : Nat) : Int) := by omega
      have hle : ((out.length - 1 : Nat) : Int) ≤ ((out.map mkP).length : Int) := by rw [List.length_map]; omega
      by_cases hr : r = []
      · rw [if_pos hr]
        refine ev_to _ (ih (i + 1) (out.dropLast ++ [[]]) (by omega) hd2 (by simp; omega) (hnil _ hda)) fun k => ?_
        simp only [place_path.l0]
        rw [if_pos (by omega), if_pos (by omega), if_pos (by rw [hlm]; omega), hrd, hsd, if_pos h2, hml, if_pos hpos, if_pos hle, bind_some rfl, htk, hlast, if_pos (hrn.2 hr), if_pos (by simp; omega), hw, hds]
      · rw [if_neg hr]
        refine ev_to _ (ih (i + 1) out.dropLast (by omega) hd2 (by simp; omega) hda) fun k => ?_
        simp only [place_path.l0]
        rw [if_pos (by omega), if_pos (by omega), if_pos (by rw [hlm]; omega), hrd, hsd, if_pos h2, hml, if_pos hpos, if_pos hle, bind_some rfl, htk, hlast, if_neg (fun e => hr (hrn.1 e)), hw]
    · rw [if_neg h2]
      by_cases h1 : s = [46]
      · rw [if_pos h1]
        by_cases hr : r = []
        · rw [if_pos hr]
          refine ev_to _ (ih (i + 1) (out ++ [[]]) (by omega) hd2 (by simp; omega) (hnil _ hp)) fun k => ?_
          simp only [place_path.l0]
          rw [if_pos (by omega), if_pos (by omega), if_pos (by rw [hlm]; omega), hrd, hsd, if_neg h2, if_pos h1, hlast, if_pos (hrn.2 hr), if_pos (by simp; omega), hw, hds]
        · rw [if_neg hr]
          refine ev_to _ (ih (i + 1) out (by omega) hd2 (by omega) hp) fun k => ?_
          simp only [place_path.l0]
          rw [if_pos (by omega), if_pos (by omega), if_pos (by rw [hlm]; omega), hrd, hsd, if_neg h2, if_pos h1, hlast, if_neg (fun e => hr (hrn.1 e)), hw]
      · rw [if_neg h1]
        refine ev_to _ (ih (i + 1) (out ++ [s]) (by omega) hd2 (by simp; omega) (fun p hq => by
          rcases List.mem_append.1 hq with hq | hq
          · exact hp p hq
          · simp at hq; subst hq; exact hsl)) fun k => ?_
        simp only [place_path.l0]
        rw [if_pos (by omega), if_pos (by omega), if_pos (by rw [hlm]; omega), hrd, hsd, if_neg h2, if_neg h1, if_pos (by simp; omega), hw, List.map_append]
        rfl
theorem list_mk (l : List ByteArray) (m : List (List UInt8)) (h : l.map (·.data.toList) = m) : l = m.map mkP := by
  subst h
  rw [List.map_map]
  conv => lhs; rw [← List.map_id l]
  exact List.map_congr_left fun a _ => (mk_eta a).symm
theorem path_prog (s : ByteArray) (hs : s.size ≤ 1000000) (t : List UInt8) (h : s.data.toList = 47 :: t) : Ev (fun k => place_path.f k s) ⟨(pathS s.data.toList).toArray⟩ := by
  have h1 : Sfx s 1 t := (Sfx.next (by have := Sfx.start s; rw [h] at this; exact this) : Sfx s (0 + 1) t)
  have hz : 1 + t.length = s.size := by rw [sz, h]; simp; omega
  have hd : (s.extract 1 s.size).data.toList = t := h1.tail
  have hsp := split_eq 47 (s.extract 1 s.size)
  rw [hd] at hsp
  have hsp2 := list_mk _ _ hsp
  have hex : (s.extract 1 s.size).size = t.length := by rw [sz, hd]
  have e1 : strings_Split.f (s.extract 1 s.size) (⟨#[47]⟩ : ByteArray) = some ((splitOn 47 t).map mkP) := by
    unfold strings_Split.f
    rw [if_pos ⟨by rw [hex]; omega, by decide⟩, hsp2]
  have hl := splitOn_len 47 t
  have hm := splitOn_mem 47 _ t (Nat.le_refl _)
  have := path_loop (splitOn 47 t) (by omega) (fun p hp => by have := (hm p hp).2; omega) _ 0 [] (by simp) rfl (by simp) (by simp)
  unfold place_path.f
  refine ev_eq _ (ev_rw this (by unfold pathS; rw [h]; rfl)) fun k => ?_
  rw [if_pos (by omega), bind_some e1, List.length_map]
  rfl
end Go.Proofs.YtgkgljendffhlaaDoor.Pure
namespace Go.Proofs.YtgkgljendffhlaaDoor.Pure
open Go.RowKit Go.Proofs.YtgkgljendffhlaaDoor.P Go.Proofs.YtgkgljendffhlaaDoorW.PrintWords Go.Proofs.YtgkgljendffhlaaDoorW.PrintLast Go.Proofs.YtgkgljendffhlaaDoorW.PrintMore
set_option linter.unusedVariables false
set_option linter.unusedSimpArgs false
def nsl (c : UInt8) : Bool := !(c == 47 || c == 63)
def apartS (s : List UInt8) : List UInt8 × List UInt8 :=
  (s.takeWhile nsl, if (s.dropWhile nsl).head? = some 47 then s.dropWhile nsl else 47 :: s.dropWhile nsl)
def httpL : List UInt8 := [104, 116, 116, 112, 58, 47, 47]
def isHttp (s : List UInt8) : Bool := 7 ≤ s.length && (lowS (s.take 7) == httpL)
def splitR (s h : List UInt8) : List UInt8 × List UInt8 := if isHttp s = true then apartS (s.drop 7) else (h, s)
abbrev Place := List UInt8 × List UInt8 × List UInt8 × Bool
def tailS (h p : List UInt8) : Option Place :=
  if p.head? = some 47 then (match cleanL (cutB 63 p).1, cleanL (cutB 63 p).2.1 with
    | some a, some q => if 512 < (pathS a).length ∨ 512 < q.length then none else some (h, pathS a, q, (cutB 63 p).2.2)
    | _, _ => none) else none
def readS (s h : List UInt8) : Option Place := match hostS (splitR s h).1 with
  | none => none
  | some h' => tailS h' (splitR s h).2
def resR : Option Place → ByteArray × ByteArray × ByteArray × Bool × Int
  | some (h, p, q, b) => (⟨h.toArray⟩, ⟨p.toArray⟩, ⟨q.toArray⟩, b, 0)
  | none => (⟨#[]⟩, ⟨#[]⟩, ⟨#[]⟩, false, 25)
/-! ### the part after the host -/
theorem cut_head (p : List UInt8) (h : p.head? = some 47) : ∃ t, (cutB 63 p).1 = 47 :: t := by
  cases p with
  | nil => cases h
  | cons c l =>
    obtain rfl : c = 47 := by simpa using h
    exact ⟨(cutB 63 l).1, by rw [cutB, if_neg (by decide)]⟩
theorem clean_head (t a : List UInt8) (h : cleanL (47 :: t) = some a) : ∃ u, a = 47 :: u := by
  rw [cleanL_char 47 t (by decide) (by decide)] at h
  cases hc : cleanL t with
  | none => rw [hc] at h; cases h
  | some u => rw [hc] at h; exact ⟨u, by simpa using h.symm⟩
theorem cleanL_le (n : Nat) : ∀ l a, l.length ≤ n → cleanL l = some a → a.length ≤ 3 * l.length := by
  induction n with
  | zero =>
    intro l a hl h
    have : l = [] := List.length_eq_zero_iff.1 (by omega)
    subst this; rw [cleanL_nil] at h; simp at h; subst h; simp
  | succ n ih =>
    intro l a hl h
    match l, hl, h with
    | [], _, h => rw [cleanL_nil] at h; simp at h; subst h; simp
    | c :: l, hl, h =>
      by_cases hb : badB c = true
      · rw [cleanL_bad c l hb] at h; cases h
      · by_cases hc : c = 37
        · subst hc
          match l, hl, h with
          | [], _, h => rw [cleanL_short1] at h; cases h
          | [x], _, h => rw [cleanL_short2] at h; cases h
          | x :: y :: r, hl, h =>
            rw [cleanL_hex] at h
            split at h
            · cases hr : cleanL r with
              | none => rw [hr] at h; cases h
              | some u =>
                rw [hr] at h
                have := ih r u (by simp at hl; omega) hr
                simp at h; subst h
                have : (encB (hexN2 x y)).length ≤ 3 := by unfold encB; split <;> simp
                simp; omega
            · cases h
        · rw [cleanL_char c l hb hc] at h
          cases hr : cleanL l with
          | none => rw [hr] at h; cases h
          | some u =>
            rw [hr] at h
            have := ih l u (by simp at hl; omega) hr
            simp at h; subst h
            simp; omega
theorem has_prefix_f (x : ByteArray) : strings_HasPrefix.f x (⟨#[47]⟩ : ByteArray) = some (decide (x.data.toList.head? = some 47)) := by
  unfold strings_HasPrefix.f Lib.hasPrefix
  rw [show (⟨#[47]⟩ : ByteArray).data.toList = [47] from rfl]
  cases x.data.toList with
  | nil => rfl
  | cons c l => simp [List.isPrefixOf, Bool.beq_eq_decide_eq, eq_comm]
theorem read_j2 (p h : List UInt8) (hp : p.length ≤ 300000) : Ev (fun k => place_Read.j2 k ⟨p.toArray⟩ ⟨h.toArray⟩ (!decide (p.head? = some 47))) (resR (tailS h p)) := by
  unfold tailS
  by_cases h1 : p.head? = some 47
  · rw [if_pos h1, decide_eq_true h1]
    have hcl := cutB_len 63 p
    have hcut := cut_f 63 ⟨p.toArray⟩ (by rw [mk_size]; omega)
    rw [mk_data] at hcut
    obtain ⟨t, ht⟩ := cut_head p h1
    have c1 := clean_prog ⟨(cutB 63 p).1.toArray⟩ (by rw [mk_size]; omega)
    have c2 := clean_prog ⟨(cutB 63 p).2.1.toArray⟩ (by rw [mk_size]; omega)
    rw [mk_data] at c1 c2
    refine ev_to (fun k => (place_clean.f k ⟨(cutB 63 p).1.toArray⟩).bind fun bt170 => ((place_clean.f k ⟨(cutB 63 p).2.1.toArray⟩).bind fun bt172 => (if bt170.2 = true then (place_Read.j3 k ⟨h.toArray⟩ bt170.1 bt172.1 (cutB 63 p).2.2 (!bt172.2)) else (place_Read.j3 k ⟨h.toArray⟩ bt170.1 bt172.1 (cutB 63 p).2.2 true)))) ?_ fun k => by
      simp only [place_Read.j2]
      rw [if_neg (by decide), bind_some hcut]
    refine ev_bind c1 ?_
    refine ev_bind c2 ?_
    have hbad : ∀ x y, Ev (fun k => place_Read.j3 k ⟨h.toArray⟩ x y (cutB 63 p).2.2 true) (resR none) := fun x y => ev_one fun k => by
      simp only [place_Read.j3]; rw [if_pos trivial]; rfl
    cases ha : cleanL (cutB 63 p).1 with
    | none => simp only [resC, Bool.false_eq_true, if_false]; exact hbad _ _
    | some a =>
      cases hq : cleanL (cutB 63 p).2.1 with
      | none => simp only [resC, if_true, Bool.not_false]; exact hbad _ _
      | some q =>
        simp only [resC, if_true, Bool.not_true]
        obtain ⟨u, hu⟩ := clean_head t a (by rw [← ht]; exact ha)
        have hal := cleanL_le _ _ _ (Nat.le_refl _) ha
        have hpp := path_prog ⟨a.toArray⟩ (by rw [mk_size]; omega) u (by rw [mk_data]; exact hu)
        rw [mk_data] at hpp
        refine ev_to (fun k => (place_path.f k ⟨a.toArray⟩).bind fun t174 => (if (t174.size : Int) > 512 then (some ((⟨#[]⟩ : ByteArray), (⟨#[]⟩ : ByteArray), (⟨#[]⟩ : ByteArray), false, 25)) else (if ((⟨q.toArray⟩ : ByteArray).size : Int) > 512 then (some ((⟨#[]⟩ : ByteArray), (⟨#[]⟩ : ByteArray), (⟨#[]⟩ : ByteArray), false, 25)) else (some ((⟨h.toArray⟩ : ByteArray), t174, (⟨q.toArray⟩ : ByteArray), (cutB 63 p).2.2, 0))))) ?_ fun k => by
          simp only [place_Read.j3]
          rw [if_neg Bool.false_ne_true]
        refine ev_bind hpp ?_
        refine ev_now fun k => ?_
        rw [mk_size, mk_size]
        by_cases g1 : 512 < (pathS a).length
        · rw [if_pos (by omega), if_pos (.inl g1)]; rfl
        · rw [if_neg (by omega)]
          by_cases g2 : 512 < q.length
          · rw [if_pos (by omega), if_pos (.inr g2)]; rfl
          · rw [if_neg (by omega), if_neg (by simp [g1, g2])]; rfl
  · rw [if_neg h1, decide_eq_false h1]
    refine ev_one fun k => ?_
    simp only [place_Read.j2]; rw [if_pos (by rfl)]; rfl
theorem read_j1 (h p : List UInt8) (hh : h.length ≤ 300000) (hp : p.length ≤ 300000) : Ev (fun k => place_Read.j1 k ⟨h.toArray⟩ ⟨p.toArray⟩) (resR (match hostS h with | none => none | some h' => tailS h' p)) := by
  have hH := host_prog ⟨h.toArray⟩ (by rw [mk_size]; omega)
  rw [mk_data] at hH
  refine ev_to (fun k => (place_Host.f k ⟨h.toArray⟩).bind fun bt164 => (if bt164.2 = 0 then (place_Read.j2 k ⟨p.toArray⟩ bt164.1 (!decide (p.head? = some 47))) else (place_Read.j2 k ⟨p.toArray⟩ bt164.1 true))) ?_ fun k => by
    simp only [place_Read.j1]
    rw [has_prefix_f, mk_data]
    rfl
  refine ev_bind hH ?_
  cases hostS h with
  | none =>
    refine ev_one fun k => ?_
    show (if (25 : Int) = 0 then _ else _) = _
    rw [if_neg (by decide)]
    simp only [place_Read.j2]; rw [if_pos trivial]; rfl
  | some h' =>
    refine ev_eq _ (read_j2 p h' hp) fun k => ?_
    show (if (0 : Int) = 0 then _ else _) = _
    rw [if_pos rfl]; rfl
theorem nsl_not (c : UInt8) (h : ¬ nsl c = true) : c = 47 ∨ c = 63 := by
  by_cases h1 : c = 47
  · exact .inl h1
  · by_cases h2 : c = 63
    · exact .inr h2
    · exact absurd (by simp [nsl, h1, h2]) h
theorem any_eq : ∀ s : List UInt8, Lib.indexAny s [47, 63] = if s.dropWhile nsl = [] then -1 else ((s.takeWhile nsl).length : Int)
  | [] => rfl
  | c :: l => by
    have ih := any_eq l
    by_cases h : nsl c = true
    · have hc : ([47, 63] : List UInt8).contains c = false := by simpa [nsl] using h
      rw [Lib.indexAny, hc, List.dropWhile_cons_of_pos h, List.takeWhile_cons_of_pos h, ih]
      by_cases hd : l.dropWhile nsl = []
      · simp [hd]
      · simp only [hd, if_false, Bool.false_eq_true, List.length_cons]
        have : ¬ ((((l.takeWhile nsl).length : Nat) : Int) == -1) = true := by rw [beq_iff_eq]; omega
        rw [if_neg this]; omega
    · have hc : ([47, 63] : List UInt8).contains c = true := by rcases nsl_not c h with rfl | rfl <;> rfl
      rw [Lib.indexAny, hc, List.dropWhile_cons_of_neg h, List.takeWhile_cons_of_neg h]
      simp
theorem apart_split (s : List UInt8) : s.takeWhile nsl ++ s.dropWhile nsl = s := List.takeWhile_append_dropWhile
theorem apart_len (s : List UInt8) : (apartS s).1.length ≤ s.length ∧ (apartS s).2.length ≤ s.length + 1 := by
  have := congrArg List.length (apart_split s)
  rw [List.length_append] at this
  unfold apartS
  constructor
  · show (s.takeWhile nsl).length ≤ _; omega
  · show (if _ then _ else _ : List UInt8).length ≤ _
    split
    · omega
    · rw [List.length_cons]; omega
/-- The program's splitting of what follows the scheme. -/
theorem read_apart (x0 x1 x6 R : ByteArray) (hR : x0.extract 7 x0.size = R) (h7 : 7 ≤ x0.size) (hx : x0.size ≤ 200000) (k : Nat) : place_Read.j0 (k + 1) x0 x1 x6 7 true = place_Read.j1 k ⟨(apartS R.data.toList).1.toArray⟩ ⟨(apartS R.data.toList).2.toArray⟩ := by
  have hRs : R.size ≤ x0.size := by rw [← hR, ByteArray.size_extract]; omega
  have hsp := apart_split R.data.toList
  have hany : strings_IndexAny.f R (⟨#[47, 63]⟩ : ByteArray) = some (Lib.indexAny R.data.toList [47, 63]) := by unfold strings_IndexAny.f; rw [if_pos ⟨by omega, rfl⟩]
  have hRd : R.size = R.data.toList.length := sz R
  simp only [place_Read.j0]
  rw [if_pos trivial, if_pos (by omega), if_pos (by omega), show ((7 : Int).toNat) = 7 from rfl, hR, bind_some hany, any_eq]
  have hps : ∀ x : ByteArray, (⟨#[47]⟩ : ByteArray) ++ x = ⟨(47 :: x.data.toList).toArray⟩ := fun x => ba_ext (by rw [data_app]; rfl)
  by_cases hd : R.data.toList.dropWhile nsl = []
  · have hall : R.data.toList.takeWhile nsl = R.data.toList := by rw [hd, List.append_nil] at hsp; exact hsp
    have e1 : R.extract 0 ((R.size : Nat) : Int).toNat = R := ba_ext (by rw [Int.toNat_natCast]; simp [ByteArray.data_extract])
    have e2 : (R.extract ((R.size : Nat) : Int).toNat R.size).data.toList = [] := by rw [Int.toNat_natCast]; simp
    have hpre : strings_HasPrefix.f (R.extract ((R.size : Nat) : Int).toNat R.size) (⟨#[47]⟩ : ByteArray) = some false := by rw [has_prefix_f, e2]; rfl
    rw [if_pos hd, if_pos (by decide), if_pos (by omega), if_pos (by omega), bind_some hpre, if_neg Bool.false_ne_true, if_pos (by rw [ByteArray.size_extract]; omega), e1, hps, e2]
    unfold apartS
    rw [hall, hd]
    rw [if_neg (show ¬ ([] : List UInt8).head? = some 47 by decide), mk_eta]
  · have hlen := congrArg List.length hsp
    rw [List.length_append, ← hRd] at hlen
    have e1 : R.extract 0 (((R.data.toList.takeWhile nsl).length : Nat) : Int).toNat = ⟨(R.data.toList.takeWhile nsl).toArray⟩ := ba_ext (extract_app R _ _ hsp.symm _ rfl)
    have e2 : R.extract (((R.data.toList.takeWhile nsl).length : Nat) : Int).toNat R.size = ⟨(R.data.toList.dropWhile nsl).toArray⟩ := ba_ext (by
      have h0 : Sfx R 0 (R.data.toList.takeWhile nsl ++ R.data.toList.dropWhile nsl) := by rw [hsp]; exact Sfx.start R
      have := (Sfx.drop h0).tail
      rw [Int.zero_add] at this
      exact this)
    have hpre : strings_HasPrefix.f (⟨(R.data.toList.dropWhile nsl).toArray⟩ : ByteArray) (⟨#[47]⟩ : ByteArray) = some (decide ((R.data.toList.dropWhile nsl).head? = some 47)) := by rw [has_prefix_f]
    rw [if_neg hd, if_neg (by omega), if_pos (by omega), if_pos (by omega), e1, e2, bind_some hpre]
    unfold apartS
    by_cases h47 : (R.data.toList.dropWhile nsl).head? = some 47
    · rw [decide_eq_true h47, if_pos rfl, if_pos h47]
    · rw [decide_eq_false h47, if_neg Bool.false_ne_true, if_pos (by rw [mk_size]; omega), if_neg h47, hps]
theorem take7 (s : ByteArray) : (s.extract 0 7).data.toList = s.data.toList.take 7 := by simp [ByteArray.data_extract]
theorem drop7 (s : ByteArray) : (s.extract 7 s.size).data.toList = s.data.toList.drop 7 := by
  rw [ByteArray.data_extract, Array.toList_extract, List.extract_eq_drop_take', List.take_of_length_le (by rw [← sz]; exact Nat.le_refl _)]
theorem read_prog (s h : ByteArray) (hs : s.size ≤ 200000) (hh : h.size ≤ 200000) : Ev (fun k => place_Read.f k s h) (resR (readS s.data.toList h.data.toList)) := by
  unfold place_Read.f readS splitR
  have hsz := sz s
  have hhz := sz h
  have plain : Ev (fun k => place_Read.j0 k s h s 7 false) (resR (match hostS h.data.toList with | none => none | some h' => tailS h' s.data.toList)) := by
    have := read_j1 h.data.toList s.data.toList (by omega) (by omega)
    rw [mk_eta, mk_eta] at this
    refine ev_to _ this fun k => ?_
    simp only [place_Read.j0]; rw [if_neg Bool.false_ne_true]
  by_cases h7 : 7 ≤ s.size
  · have l1 := lower_sign (s.extract 0 7) (by rw [ByteArray.size_extract]; omega)
    have l2 := lower_sign (⟨#[104, 116, 116, 112, 58, 47, 47]⟩ : ByteArray) (by decide)
    rw [take7] at l1
    have l3 : lowS (⟨#[104, 116, 116, 112, 58, 47, 47]⟩ : ByteArray).data.toList = httpL := by decide
    rw [l3] at l2
    have hsame : sign_Same.f (s.extract 0 7) (⟨#[104, 116, 116, 112, 58, 47, 47]⟩ : ByteArray) = some (lowS (s.data.toList.take 7) == httpL) := by
      unfold sign_Same.f
      rw [bind_some l1, bind_some l2, tl, tl]
    have hih : isHttp s.data.toList = (lowS (s.data.toList.take 7) == httpL) := by
      unfold isHttp
      rw [decide_eq_true (by omega), Bool.true_and]
    rw [hih]
    have step : ∀ k, (if (s.size : Int) ≥ 7 then (if (0 : Int) ≤ 7 then (if (7 : Int) ≤ (s.size : Int) then ((sign_Same.f (s.extract 0 7) (⟨#[104, 116, 116, 112, 58, 47, 47]⟩ : ByteArray)).bind fun t160 => (place_Read.j0 k s h s 7 t160)) else (none)) else (none)) else (place_Read.j0 k s h s 7 false)) = place_Read.j0 k s h s 7 (lowS (s.data.toList.take 7) == httpL) := fun k => by
      rw [if_pos (by omega), if_pos (by omega), if_pos (by omega), bind_some hsame]
    refine ev_eq _ ?_ step
    cases hb : (lowS (s.data.toList.take 7) == httpL) with
    | false => rw [if_neg Bool.false_ne_true]; exact plain
    | true =>
      rw [if_pos rfl]
      have hal := apart_len (s.data.toList.drop 7)
      have hdl : (s.data.toList.drop 7).length ≤ s.size := by rw [List.length_drop]; omega
      have := read_j1 (apartS (s.data.toList.drop 7)).1 (apartS (s.data.toList.drop 7)).2 (by omega) (by omega)
      refine ev_to _ this fun k => ?_
      rw [read_apart s h s _ rfl h7 hs k, drop7]
  · have hih : isHttp s.data.toList = false := by
      unfold isHttp
      rw [decide_eq_false (by omega), Bool.false_and]
    rw [hih, if_neg Bool.false_ne_true]
    exact ev_eq _ plain fun k => by rw [if_neg (by omega)]
end Go.Proofs.YtgkgljendffhlaaDoor.Pure
namespace Go.Proofs.YtgkgljendffhlaaDoor.Pure
open Go.RowKit Go.Proofs.YtgkgljendffhlaaDoor.P Go.Proofs.YtgkgljendffhlaaDoorW.PrintWords Go.Proofs.YtgkgljendffhlaaDoorW.PrintLast Go.Proofs.YtgkgljendffhlaaDoorW.PrintMore
set_option linter.unusedVariables false
set_option linter.unusedSimpArgs false
/-- A cleaned path: bytes that stand for themselves, and hexed ones. -/
inductive Cln : List UInt8 → Prop
  | nil : Cln []
  | ch (c : UInt8) (l : List UInt8) : badB c = false → c ≠ 37 → c ≠ 63 → Cln l → Cln (c :: l)
  | hx (n : UInt8) (l : List UInt8) : plainB n = false → Cln l → Cln (37 :: upH (n.toNat / 16) :: upH (n.toNat % 16) :: l)
theorem hex_back (n : UInt8) : 0 ≤ hv (upH (n.toNat / 16)) ∧ 0 ≤ hv (upH (n.toNat % 16)) ∧ hexN2 (upH (n.toNat / 16)) (upH (n.toNat % 16)) = n ∧ upH (n.toNat / 16) ≠ 47 ∧ upH (n.toNat % 16) ≠ 47 ∧ upH (n.toNat / 16) ≠ 63 ∧ upH (n.toNat % 16) ≠ 63 := by
  have := all_bytes (p := fun n => 0 ≤ hv (upH (n / 16)) ∧ 0 ≤ hv (upH (n % 16)) ∧ hexN2 (upH (n / 16)) (upH (n % 16)) = UInt8.ofNat n ∧ upH (n / 16) ≠ 47 ∧ upH (n % 16) ≠ 47 ∧ upH (n / 16) ≠ 63 ∧ upH (n % 16) ≠ 63) (by decide +kernel) n
  simpa using this
theorem Cln.fix {l : List UInt8} (h : Cln l) : cleanL l = some l := by
  induction h with
  | nil => exact cleanL_nil
  | ch c l h1 h2 _ _ ih => rw [cleanL_char c l (by rw [h1]; decide) h2, ih]; rfl
  | hx n l h1 _ ih =>
    obtain ⟨e1, e2, e3, _⟩ := hex_back n
    rw [cleanL_hex, if_pos ⟨e1, e2⟩, ih, e3]
    unfold encB
    rw [if_neg (by rw [h1]; decide)]
    rfl
theorem Cln.no63 {l : List UInt8} (h : Cln l) : 63 ∉ l := by
  induction h with
  | nil => simp
  | ch c l _ _ h3 _ ih => simp; exact ⟨fun e => h3 e.symm, ih⟩
  | hx n l _ _ ih =>
    obtain ⟨_, _, _, _, _, e6, e7⟩ := hex_back n
    simp; exact ⟨fun e => e6 e.symm, fun e => e7 e.symm, ih⟩
theorem splitOn_cons (c x : UInt8) (l : List UInt8) (h : x ≠ c) : ∃ a r, splitOn c l = a :: r ∧ splitOn c (x :: l) = (x :: a) :: r := by
  cases hs : splitOn c l with
  | nil => exact absurd hs (splitOn_ne c l)
  | cons a r => exact ⟨a, r, rfl, by rw [splitOn, if_neg h, hs]⟩
theorem Cln.split {l : List UInt8} (h : Cln l) : ∀ p ∈ splitOn 47 l, Cln p := by
  induction h with
  | nil => intro p hp; simp [splitOn] at hp; subst hp; exact .nil
  | ch c l h1 h2 h3 _ ih =>
    by_cases hc : c = 47
    · subst hc
      intro p hp
      rw [splitOn, if_pos rfl] at hp
      rcases List.mem_cons.1 hp with rfl | hp
      · exact .nil
      · exact ih p hp
    · obtain ⟨a, r, e1, e2⟩ := splitOn_cons 47 c l hc
      rw [e2]
      rw [e1] at ih
      intro p hp
      rcases List.mem_cons.1 hp with rfl | hp
      · exact .ch c a h1 h2 h3 (ih a (by simp))
      · exact ih p (by simp [hp])
  | hx n l h1 _ ih =>
    obtain ⟨_, _, _, n1, n2, _, _⟩ := hex_back n
    obtain ⟨a, r, e1, e2⟩ := splitOn_cons 47 _ l n2
    obtain ⟨a2, r2, e3, e4⟩ := splitOn_cons 47 _ (upH (n.toNat % 16) :: l) n1
    obtain ⟨a3, r3, e5, e6⟩ := splitOn_cons 47 37 (upH (n.toNat / 16) :: upH (n.toNat % 16) :: l) (by decide)
    rw [e2] at e3
    obtain ⟨rfl, rfl⟩ := List.cons.inj e3
    rw [e4] at e5
    obtain ⟨rfl, rfl⟩ := List.cons.inj e5
    rw [e6]
    rw [e1] at ih
    intro p hp
    rcases List.mem_cons.1 hp with rfl | hp
    · exact .hx n a h1 (ih a (by simp))
    · exact ih p (by simp [hp])
theorem Cln.app {x : List UInt8} (h : Cln x) : ∀ {y : List UInt8}, Cln y → Cln (x ++ y) := by
  induction h with
  | nil => intro y hy; exact hy
  | ch c l h1 h2 h3 _ ih => intro y hy; exact .ch c _ h1 h2 h3 (ih hy)
  | hx n l h1 _ ih => intro y hy; exact .hx n _ h1 (ih hy)
theorem Cln.slash {y : List UInt8} (h : Cln y) : Cln (47 :: y) := .ch 47 y (by decide) (by decide) (by decide) h
theorem cln_join (l : List (List UInt8)) (h : ∀ p ∈ l, Cln p) : Cln (joinOn 47 l) := by
  induction l with
  | nil => exact .nil
  | cons x l ih =>
    cases l with
    | nil => rw [joinOn_one]; exact h x (by simp)
    | cons y l => rw [joinOn_cons]; exact (h x (by simp)).app (ih (fun p hp => h p (by simp [hp]))).slash
def noDot (p : List UInt8) : Prop := p ≠ [46] ∧ p ≠ [46, 46]
theorem pathGo_id (r : List (List UInt8)) : ∀ out, (∀ p ∈ r, noDot p) → pathGo out r = out ++ r := by
  induction r with
  | nil => intro out _; simp [pathGo]
  | cons s r ih =>
    intro out h
    have hs := h s (by simp)
    rw [pathGo, if_neg hs.2, if_neg hs.1, ih _ (fun p hp => h p (by simp [hp]))]
    simp
end Go.Proofs.YtgkgljendffhlaaDoor.Pure
namespace Go.Proofs.YtgkgljendffhlaaDoor.Pure
open Go.RowKit Go.Proofs.YtgkgljendffhlaaDoor.P Go.Proofs.YtgkgljendffhlaaDoorW.PrintWords Go.Proofs.YtgkgljendffhlaaDoorW.PrintLast Go.Proofs.YtgkgljendffhlaaDoorW.PrintMore
set_option linter.unusedVariables false
set_option linter.unusedSimpArgs false
theorem anchor_at : pantrylaw08_anchor.f 60 = some true := by decide +kernel
theorem anchor_ev : Ev (fun k => pantrylaw08_anchor.f k) true := Ev.of (fun k => pantrylaw08_anchor.mono k) anchor_at
end Go.Proofs.YtgkgljendffhlaaDoor.Pure
/-
The law PlaceDots: dots that are walked away change nothing.
-/
namespace Go.Proofs.YtgkgljendffhlaaDoor.Pure
open Go.RowKit Go.Proofs.YtgkgljendffhlaaDoor.P Go.Proofs.YtgkgljendffhlaaDoorW.PrintWords Go.Proofs.YtgkgljendffhlaaDoorW.PrintLast Go.Proofs.YtgkgljendffhlaaDoorW.PrintMore
set_option linter.unusedVariables false
set_option linter.unusedSimpArgs false
theorem dots_shift {α : Type} {g : Nat → Option α} {r : α} (h : Ev (fun k => g (k + 1)) r) : Ev g r := ev_to _ h fun k => rfl
/-- Reading a text that is clean already. -/
theorem read_cln (p t : List UInt8) (ht : p = 47 :: t) (hc : Cln p) (hl : (pathS p).length ≤ 512) : readS p [104] = some ([104], pathS p, [], false) := by
  have hsplit : splitR p [104] = ([104], p) := by
    subst ht
    have : isHttp (47 :: t) = false := by
      unfold isHttp
      rw [Bool.and_eq_false_iff]
      refine .inr ?_
      rw [List.take_succ_cons, show lowS (47 :: t.take 6) = lowB 47 :: lowS (t.take 6) from rfl]
      rw [beq_eq_false_iff_ne]
      intro e
      have := (List.cons.inj e).1
      revert this; decide
    unfold splitR
    rw [this, if_neg Bool.false_ne_true]
  have hhost : hostS [104] = some [104] := by decide +kernel
  unfold readS
  rw [hsplit]
  simp only [hhost]
  unfold tailS
  rw [if_pos (by rw [ht]; rfl), cutB_miss 63 p hc.no63]
  simp only [hc.fix, cleanL_nil]
  rw [if_neg (by simp; omega)]
def letter (b : UInt8) : Prop := 97 ≤ b ∧ b ≤ 122
theorem letter_cln (b : UInt8) (h : letter b) : Cln [b] ∧ b ≠ 47 ∧ b ≠ 46 := by
  have := all_bytes (p := fun n => 97 ≤ UInt8.ofNat n ∧ UInt8.ofNat n ≤ 122 → badB (UInt8.ofNat n) = false ∧ UInt8.ofNat n ≠ 37 ∧ UInt8.ofNat n ≠ 63 ∧ UInt8.ofNat n ≠ 47 ∧ UInt8.ofNat n ≠ 46) (by decide +kernel) b
  simp at this
  obtain ⟨h1, h2, h3, h4, h5⟩ := this h.1 h.2
  exact ⟨.ch b [] h1 h2 h3 .nil, h4, h5⟩
/-- What stands in the two texts, piece by piece. -/
structure Both (A D : List (List UInt8)) : Prop where
  a : ∀ p ∈ A, ∃ b, p = [b] ∧ letter b
  d : ∀ p ∈ D, 47 ∉ p ∧ Cln p
  go : ∀ r, pathGo [] (D ++ r) = pathGo A r
  na : A ≠ [] → D ≠ []
theorem Both.start : Both [] [] := ⟨by simp, by simp, fun r => rfl, fun h => absurd rfl h⟩
theorem Both.step {A D : List (List UInt8)} (h : Both A D) (b : UInt8) (hb : letter b) (E : List (List UInt8)) (hE : E = [] ∨ E = [[46]] ∨ E = [[120], [46, 46]]) : Both (A ++ [[b]]) (D ++ E ++ [[b]]) := by
  obtain ⟨hc, h47, h46⟩ := letter_cln b hb
  have hb1 : ([b] : List UInt8) ≠ [46] := by simpa using h46
  have hb2 : ([b] : List UInt8) ≠ [46, 46] := by simp
  refine ⟨fun p hp => ?_, fun p hp => ?_, fun r => ?_, fun _ => by simp⟩
  · rcases List.mem_append.1 hp with hp | hp
    · exact h.a p hp
    · exact ⟨b, List.mem_singleton.1 hp, hb⟩
  · rcases List.mem_append.1 hp with hp | hp
    · rcases List.mem_append.1 hp with hp | hp
      · exact h.d p hp
      · rcases hE with rfl | rfl | rfl
        · cases hp
        · rw [List.mem_singleton.1 hp]
          exact ⟨by decide, .ch 46 [] (by decide) (by decide) (by decide) .nil⟩
        · simp only [List.mem_cons, List.not_mem_nil, or_false] at hp
          rcases hp with rfl | rfl
          · exact ⟨by decide, .ch 120 [] (by decide) (by decide) (by decide) .nil⟩
          · exact ⟨by decide, .ch 46 _ (by decide) (by decide) (by decide) (.ch 46 [] (by decide) (by decide) (by decide) .nil)⟩
    · rw [List.mem_singleton.1 hp]
      exact ⟨by simp; exact fun e => h47 e.symm, hc⟩
  · rw [List.append_assoc, List.append_assoc, h.go]
    have fin : ∀ X, pathGo X ([[b]] ++ r) = pathGo (X ++ [[b]]) r := fun X => by
      rw [List.singleton_append, pathGo, if_neg hb2, if_neg hb1]
    rcases hE with rfl | rfl | rfl
    · exact fin A
    · rw [List.singleton_append, pathGo, if_neg (by decide), if_pos rfl, if_neg (by simp)]
      exact fin A
    · show pathGo A ([120] :: [46, 46] :: ([[b]] ++ r)) = _
      rw [pathGo, if_neg (by decide), if_neg (by decide), pathGo, if_pos rfl, if_neg (by simp), List.dropLast_concat]
      exact fin A
theorem flat_join (l : List (List UInt8)) (h : l ≠ []) : l.flatMap (47 :: ·) = 47 :: joinOn 47 l := by
  cases l with
  | nil => exact absurd rfl h
  | cons x l => exact (join_cat 47 l x).symm
theorem Both.read {A D : List (List UInt8)} (h : Both A D) (hA : A ≠ []) (hl : A.length ≤ 20) : readS (A.flatMap (47 :: ·)) [104] = some ([104], A.flatMap (47 :: ·), [], false) ∧ readS (D.flatMap (47 :: ·)) [104] = some ([104], A.flatMap (47 :: ·), [], false) := by
  have hD := h.na hA
  have hAd : ∀ p ∈ A, 47 ∉ p ∧ Cln p ∧ noDot p := fun p hp => by
    obtain ⟨b, rfl, hb⟩ := h.a p hp
    obtain ⟨hc, h47, h46⟩ := letter_cln b hb
    exact ⟨by simp; exact fun e => h47 e.symm, hc, by simpa using h46, by simp⟩
  have eA := flat_join A hA
  have eD := flat_join D hD
  have pA : pathS (A.flatMap (47 :: ·)) = A.flatMap (47 :: ·) := by
    rw [eA]; unfold pathS
    rw [List.drop_one, List.tail_cons, splitOn_join 47 A hA (fun p hp => (hAd p hp).1), pathGo_id A [] (fun p hp => (hAd p hp).2.2), List.nil_append]
  have pD : pathS (D.flatMap (47 :: ·)) = A.flatMap (47 :: ·) := by
    rw [eA, eD]; unfold pathS
    have := h.go []
    rw [List.append_nil] at this
    rw [List.drop_one, List.tail_cons, splitOn_join 47 D hD (fun p hp => (h.d p hp).1), this]
    rfl
  have hlen : (A.flatMap (47 :: ·)).length ≤ 512 := by
    rw [eA, List.length_cons]
    have := join_le 47 1 A (fun p hp => by obtain ⟨b, rfl, _⟩ := h.a p hp; simp)
    omega
  have c1 := read_cln _ _ eA (by rw [eA]; exact (cln_join A (fun p hp => (hAd p hp).2.1)).slash) (by rw [pA]; exact hlen)
  have c2 := read_cln _ _ eD (by rw [eD]; exact (cln_join D (fun p hp => (h.d p hp).2)).slash) (by rw [pD]; exact hlen)
  rw [pA] at c1
  rw [pD] at c2
  exact ⟨c1, c2⟩
theorem letter_of (n : Int) : letter (UInt8.ofNat (97 + n % 26).toNat) ∧ strOfNums [97 + n % 26] = ⟨#[UInt8.ofNat (97 + n % 26).toNat]⟩ := by
  have h0 : 0 ≤ n % 26 := by omega
  have h1 : n % 26 < 26 := by omega
  refine ⟨?_, str_one _ (by omega) (by omega)⟩
  obtain ⟨m, hm⟩ := Int.eq_ofNat_of_zero_le h0
  have hm2 : m < 26 := by omega
  rw [hm, show (97 + (m : Int)).toNat = 97 + m from by omega]
  have : ∀ m, m < 26 → letter (UInt8.ofNat (97 + m)) := by
    unfold letter
    decide +kernel
  exact this m hm2
/-- The law's end. -/
theorem dots_end (L0 L1 : List Int) (A D : List (List UInt8)) (h : Both A D) (hl : A.length ≤ 20) (hD : D.length ≤ 100) (hDl : ∀ p ∈ D, p.length ≤ 2) (j n : Int) (hj : ¬ j < n) : Ev (fun k => pantrylaw08_PlaceDots.l0 k L1 ⟨(A.flatMap (47 :: ·)).toArray⟩ ⟨(D.flatMap (47 :: ·)).toArray⟩ L0 n j) true := by
  have h104 : (⟨#[104]⟩ : ByteArray).data.toList = [104] := rfl
  refine dots_shift ?_
  by_cases hA : A = []
  · subst hA
    have r1 := read_prog (⟨#[47]⟩ : ByteArray) (⟨#[104]⟩ : ByteArray) (by decide) (by decide)
    have r2 := read_prog (⟨#[47, 46]⟩ : ByteArray) (⟨#[104]⟩ : ByteArray) (by decide) (by decide)
    have c1 : Cln [47] := .ch 47 _ (by decide) (by decide) (by decide) .nil
    have c2 : Cln [47, 46] := .ch 47 _ (by decide) (by decide) (by decide) (.ch 46 _ (by decide) (by decide) (by decide) .nil)
    rw [h104, show (⟨#[47]⟩ : ByteArray).data.toList = [47] from rfl, read_cln [47] [] rfl c1 (by decide), show pathS [47] = [47] by decide] at r1
    rw [h104, show (⟨#[47, 46]⟩ : ByteArray).data.toList = [47, 46] from rfl, read_cln [47, 46] [46] rfl c2 (by decide), show pathS [47, 46] = [47] by decide] at r2
    simp only [pantrylaw08_PlaceDots.l0, if_neg hj, tl, mk_data, List.flatMap_nil, if_true]
    refine ev_bind r1 ?_
    refine ev_bind r2 ?_
    exact ev_now fun k => rfl
  · have hne : A.flatMap (47 :: ·) ≠ [] := by rw [flat_join A hA]; simp
    obtain ⟨e1, e2⟩ := h.read hA hl
    have l1 : (A.flatMap (47 :: ·)).length ≤ 200 := by
      rw [flat_join A hA, List.length_cons]
      have := join_le 47 1 A (fun p hp => by obtain ⟨b, rfl, _⟩ := h.a p hp; simp)
      omega
    have l2 : (D.flatMap (47 :: ·)).length ≤ 1000 := by
      rw [flat_join D (h.na hA), List.length_cons]
      have := join_le 47 2 D hDl
      omega
    have r1 := read_prog ⟨(A.flatMap (47 :: ·)).toArray⟩ (⟨#[104]⟩ : ByteArray) (by rw [mk_size]; omega) (by decide)
    have r2 := read_prog ⟨(D.flatMap (47 :: ·)).toArray⟩ (⟨#[104]⟩ : ByteArray) (by rw [mk_size]; omega) (by decide)
    rw [mk_data, h104, e1] at r1
    rw [mk_data, h104, e2] at r2
    simp only [pantrylaw08_PlaceDots.l0, if_neg hj, tl, mk_data, if_neg hne]
    refine ev_bind r1 ?_
    refine ev_bind r2 ?_
    refine ev_now fun k => ?_
    show (if (0 : Int) = 0 then (if (0 : Int) = 0 then (if (([104] : List UInt8) == [104] && (A.flatMap (47 :: ·) == A.flatMap (47 :: ·) && (([] : List UInt8) == [] && (false == false)))) = true then some (A.flatMap (47 :: ·) == A.flatMap (47 :: ·)) else some false) else some false) else some false) = some true
    rw [if_pos rfl, if_pos rfl, if_pos (by simp), beq_self_eq_true]
theorem dots_loop (L0 L1 : List Int) (h0 : L0.length ≤ 20) (h1 : L1.length ≤ 20) (m : Nat) : ∀ (i : Nat) (A D : List (List UInt8)), i + m = L0.length → Both A D → A.length = i → D.length ≤ 3 * i → (∀ p ∈ D, p.length ≤ 2) → Ev (fun k => pantrylaw08_PlaceDots.l0 k L1 ⟨(A.flatMap (47 :: ·)).toArray⟩ ⟨(D.flatMap (47 :: ·)).toArray⟩ L0 (L0.length : Int) (i : Int)) true := by
  induction m with
  | zero => intro i A D hi h hA hD hDl; exact dots_end L0 L1 A D h (by omega) (by omega) hDl _ _ (by omega)
  | succ m ih =>
    intro i A D hi h hA hD hDl
    have hw : wrap64 ((i : Int) + 1) = ((i + 1 : Nat) : Int) := by rw [wrap_id (by omega) (by omega)]; omega
    obtain ⟨hb, hstr⟩ := letter_of ((wrap64 ((Int.tmod (rd L0 (i : Int)) 26) + 26)) % 256)
    generalize UInt8.ofNat (97 + ((wrap64 ((Int.tmod (rd L0 (i : Int)) 26) + 26)) % 256) % 26).toNat = b at *
    have hz1 : (⟨#[b]⟩ : ByteArray).size = 1 := rfl
    have hps : (⟨#[47]⟩ : ByteArray) ++ (⟨#[b]⟩ : ByteArray) = ⟨[47, b].toArray⟩ := ba_ext (by rw [data_app]; rfl)
    have hz2 : (⟨[47, b].toArray⟩ : ByteArray).size = 2 := rfl
    have lA : (A.flatMap (47 :: ·)).length ≤ 200 := by
      by_cases hA0 : A = []
      · subst hA0; simp
      · rw [flat_join A hA0, List.length_cons]
        have := join_le 47 1 A (fun p hp => by obtain ⟨b, rfl, _⟩ := h.a p hp; simp)
        omega
    have lD : (D.flatMap (47 :: ·)).length ≤ 1000 := by
      by_cases hD0 : D = []
      · subst hD0; simp
      · rw [flat_join D hD0, List.length_cons]
        have := join_le 47 2 D hDl
        omega
    have go : ∀ E, (E = [] ∨ E = [[46]] ∨ E = [[120], [46, 46]]) → Ev (fun k => pantrylaw08_PlaceDots.l0 k L1 ⟨((A ++ [[b]]).flatMap (47 :: ·)).toArray⟩ ⟨((D ++ E ++ [[b]]).flatMap (47 :: ·)).toArray⟩ L0 (L0.length : Int) ((i + 1 : Nat) : Int)) true := fun E hE => by
      refine ih (i + 1) _ _ (by omega) (h.step b hb E hE) (by simp; omega) ?_ ?_
      · rcases hE with rfl | rfl | rfl <;> simp <;> omega
      · intro p hp
        rcases List.mem_append.1 hp with hp | hp
        · rcases List.mem_append.1 hp with hp | hp
          · exact hDl p hp
          · rcases hE with rfl | rfl | rfl
            · cases hp
            · rw [List.mem_singleton.1 hp]; decide
            · simp only [List.mem_cons, List.not_mem_nil, or_false] at hp
              rcases hp with rfl | rfl <;> decide
        · rw [List.mem_singleton.1 hp]; simp
    have xA : (⟨(A.flatMap (47 :: ·)).toArray⟩ : ByteArray) ++ ⟨[47, b].toArray⟩ = ⟨((A ++ [[b]]).flatMap (47 :: ·)).toArray⟩ := ba_ext (by rw [data_app]; simp)
    have x0 : (⟨(D.flatMap (47 :: ·)).toArray⟩ : ByteArray) ++ ⟨[47, b].toArray⟩ = ⟨((D ++ [] ++ [[b]]).flatMap (47 :: ·)).toArray⟩ := ba_ext (by rw [data_app]; simp)
    have x1 : ((⟨(D.flatMap (47 :: ·)).toArray⟩ : ByteArray) ++ (⟨#[47, 46]⟩ : ByteArray)) ++ ⟨[47, b].toArray⟩ = ⟨((D ++ [[46]] ++ [[b]]).flatMap (47 :: ·)).toArray⟩ := ba_ext (by rw [data_app, data_app]; simp)
    have x2 : ((⟨(D.flatMap (47 :: ·)).toArray⟩ : ByteArray) ++ (⟨#[47, 120, 47, 46, 46]⟩ : ByteArray)) ++ ⟨[47, b].toArray⟩ = ⟨((D ++ [[120], [46, 46]] ++ [[b]]).flatMap (47 :: ·)).toArray⟩ := ba_ext (by rw [data_app, data_app]; simp)
    have s1 : ((⟨(D.flatMap (47 :: ·)).toArray⟩ : ByteArray) ++ (⟨#[47, 46]⟩ : ByteArray)).size = (D.flatMap (47 :: ·)).length + 2 := by rw [sz, data_app]; simp
    have s2 : ((⟨(D.flatMap (47 :: ·)).toArray⟩ : ByteArray) ++ (⟨#[47, 120, 47, 46, 46]⟩ : ByteArray)).size = (D.flatMap (47 :: ·)).length + 5 := by rw [sz, data_app]; simp
    have sA : (⟨(A.flatMap (47 :: ·)).toArray⟩ : ByteArray).size = (A.flatMap (47 :: ·)).length := mk_size _
    have sD : (⟨(D.flatMap (47 :: ·)).toArray⟩ : ByteArray).size = (D.flatMap (47 :: ·)).length := mk_size _
    refine dots_shift ?_
    simp only [pantrylaw08_PlaceDots.l0]
    simp only [if_pos (show (i : Int) < (L0.length : Int) by omega), if_pos (show (0 : Int) ≤ (i : Int) by omega), Option.bind_some, hstr, hz1, hps, hz2, hw, sA, sD, s1, s2]
    simp only [if_pos (show 1 + 1 ≤ 9223372036854775807 by omega), if_pos (show (A.flatMap (47 :: ·)).length + 2 ≤ 9223372036854775807 by omega), if_pos (show (D.flatMap (47 :: ·)).length + 2 ≤ 9223372036854775807 by omega), if_pos (show (D.flatMap (47 :: ·)).length + 5 ≤ 9223372036854775807 by omega), if_pos (show (D.flatMap (47 :: ·)).length + 2 + 2 ≤ 9223372036854775807 by omega), if_pos (show (D.flatMap (47 :: ·)).length + 5 + 2 ≤ 9223372036854775807 by omega), xA, x0, x1, x2]
    by_cases c1 : (i : Int) < (L1.length : Int)
    · simp only [if_pos c1]
      by_cases c2 : Int.tmod (rd L1 (i : Int)) 3 = 1
      · simp only [if_pos c2]; exact go _ (.inr (.inl rfl))
      · simp only [if_neg c2]
        by_cases c3 : Int.tmod (rd L1 (i : Int)) 3 = 2
        · simp only [if_pos c3]; exact go _ (.inr (.inr rfl))
        · simp only [if_neg c3]; exact go _ (.inl rfl)
    · simp only [if_neg c1]; exact go _ (.inl rfl)
theorem PlaceDots : ∀ (l0 : List Int) (l1 : List Int), (l0.length ≤ 9223372036854775807 ∧ ∀ x ∈ l0, (Lit.int .i64 x).wf = true) → (l1.length ≤ 9223372036854775807 ∧ ∀ x ∈ l1, (Lit.int .i64 x).wf = true) → ∃ k, pantrylaw08_PlaceDots.f k l0 l1 = some true := by
  intro l0 l1 _ _
  refine Ev.rounds ?_
  unfold pantrylaw08_PlaceDots.f
  refine ev_bind anchor_ev ?_
  have hj : Ev (fun k => pantrylaw08_PlaceDots.j0 k l0 l1 true) true := ev_one fun k => by simp only [pantrylaw08_PlaceDots.j0]; rw [if_pos trivial]
  by_cases h1 : (l0.length : Int) > 20
  · exact ev_eq _ hj fun k => by rw [if_pos rfl, if_pos h1]
  by_cases h2 : (l1.length : Int) > 20
  · exact ev_eq _ hj fun k => by rw [if_pos rfl, if_neg h1, decide_eq_true h2]
  refine ev_eq (fun k => pantrylaw08_PlaceDots.j0 k l0 l1 false) ?_ fun k => by rw [if_pos rfl, if_neg h1, decide_eq_false h2]
  refine ev_to _ (dots_loop l0 l1 (by omega) (by omega) l0.length 0 [] [] (by omega) Both.start rfl (by simp) (by simp)) fun k => ?_
  simp only [pantrylaw08_PlaceDots.j0]; rw [if_neg Bool.false_ne_true]
  rfl
end Go.Proofs.YtgkgljendffhlaaDoor.Pure
