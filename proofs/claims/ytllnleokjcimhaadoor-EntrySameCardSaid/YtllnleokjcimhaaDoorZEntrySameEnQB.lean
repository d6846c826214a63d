import Derived.Test.YtllnleokjcimhaaDoorZEntrySamePure
import Derived.Test.YtllnleokjcimhaaDoorZEntrySameEnQA
import Derived.Test.YtllnleokjcimhaaDoorZEntrySamePx0
import Derived.Test.YtllnleokjcimhaaDoorZEntrySamePx1
import Derived.Test.YtllnleokjcimhaaDoorZEntrySamePx2
import Derived.Test.YtllnleokjcimhaaDoorZEntrySamePx3
import Derived.Test.YtllnleokjcimhaaDoorZEntrySamePx4
import Derived.Test.YtllnleokjcimhaaDoorZEntrySamePx5
import Derived.Test.YtllnleokjcimhaaDoorZEntrySamePx6
import Derived.Test.YtllnleokjcimhaaDoorZEntrySamePx7
import Derived.Test.YtllnleokjcimhaaDoorZEntrySamePx8
import Derived.Test.YtllnleokjcimhaaDoorZEntrySamePx9
import Derived.Test.YtllnleokjcimhaaDoorZEntrySamePx10
import Derived.Test.YtllnleokjcimhaaDoorZEntrySamePx15
import Derived.Test.YtllnleokjcimhaaDoorZEntrySamePx16
import Derived.Test.YtllnleokjcimhaaDoorZEntrySamePx17
import Derived.Test.YtllnleokjcimhaaDoorZEntrySamePx18
import Derived.Test.YtllnleokjcimhaaDoorZEntrySamePx19
import Derived.Laws.BitsAllLaws
import Derived.Test.YtllnleokjcimhaaDoorZEntrySameEnDec
/-
The plain law, part 1: numbers, texts and sums as bytes. No program in sight but the printed functions.
-/
namespace Go.Proofs.YtllnleokjcimhaaDoor.Pure
open Go.RowKit Go.Proofs.YtllnleokjcimhaaDoor.P Go.Proofs.YtllnleokjcimhaaDoor.En Go.Proofs.YtllnleokjcimhaaDoorW.PrintWords Go.Proofs.YtllnleokjcimhaaDoorW.PrintLast Go.Proofs.YtllnleokjcimhaaDoorW.PrintMore
set_option linter.unusedVariables false
set_option linter.unusedSimpArgs false
/-- A number in so many bytes. -/
def numP : Nat → Int → List Int
  | 0, _ => []
  | s + 1, n => (n / 2 ^ (8 * s) % 256) :: numP s n
theorem numP_length (s : Nat) (n : Int) : (numP s n).length = s := by induction s with
  | zero => rfl
  | succ s ih => rw [numP, List.length_cons, ih]
theorem numP_rng (s : Nat) (n : Int) : ∀ x ∈ numP s n, 0 ≤ x ∧ x < 256 := by induction s with
  | zero => intro x hx; cases hx
  | succ s ih =>
    intro x hx
    rw [numP] at hx
    rcases List.mem_cons.1 hx with rfl | hx
    · omega
    · exact ih x hx
/-- Their number again. -/
theorem big_numP2 (n : Int) (h0 : 0 ≤ n) (h1 : n < 65536) : big (numP 2 n) = n := by
  simp only [numP, big, List.foldl]; omega
theorem big_numP4 (n : Int) (h0 : 0 ≤ n) (h1 : n < 4294967296) : big (numP 4 n) = n := by
  simp only [numP, big, List.foldl]; omega
theorem big_numP6 (n : Int) (h0 : 0 ≤ n) (h1 : n < 281474976710656) : big (numP 6 n) = n := by
  simp only [numP, big, List.foldl]; omega
theorem numP4_big (a b c d : Int) (ha : 0 ≤ a ∧ a < 256) (hb : 0 ≤ b ∧ b < 256) (hc : 0 ≤ c ∧ c < 256) (hd : 0 ≤ d ∧ d < 256) : numP 4 (big [a, b, c, d]) = [a, b, c, d] := by
  simp only [numP, big, List.foldl, List.cons.injEq, and_true]; omega
theorem put_digits (n : Int) (s : Nat) (hs : s ≤ 6) (x1 : Int) (x10 : List Int) (x11 x12 : Int) (r : List Int) : ∀ x0 : List Int, x0.length + s < 70368744177664 → Ev (fun k => entry_put.l0 k (x0 ++ numP s n) x1 x10 x11 (wrap64 (x12 + 1))) r →
    Ev (fun k => entry_put.l1 k x0 x1 n (8 * (s : Int) - 8) x10 x11 x12) r := by
  induction s with
  | zero =>
    intro x0 hl h
    rw [numP, List.append_nil] at h
    refine ev_to _ h fun k => ?_
    show entry_put.l1 (k + 1) x0 x1 n _ x10 x11 x12 = _
    rw [entry_put.l1, if_neg (by omega)]
  | succ s ih =>
    intro x0 hl h
    refine ev_to _ (ih (by omega) (x0 ++ [n / 2 ^ (8 * s) % 256]) (by simp; omega) (by rw [List.append_assoc]; exact h)) fun k => ?_
    show entry_put.l1 (k + 1) x0 x1 n _ x10 x11 x12 = _
    rw [entry_put.l1, if_pos (by omega), if_pos (by omega), if_pos (by omega)]
    have e : (shr .i64 n (8 * ((s + 1 : Nat) : Int) - 8)) = n / 2 ^ (8 * s) := by
      unfold shr
      rw [show (8 * ((s + 1 : Nat) : Int) - 8).toNat = 8 * s from by omega, Nat.min_eq_left (by show 8 * s ≤ 64; omega)]
    rw [e, wrap_id (by omega) (by omega), show 8 * ((s + 1 : Nat) : Int) - 8 - 8 = 8 * (s : Int) - 8 from by omega]
def putP (s : Nat) (l : List Int) : List Int := l.flatMap (numP s)
theorem put_loop (s : Nat) (hs : s ≤ 6) (l : List Int) (hl : l.length ≤ 1000000) (m : Nat) : ∀ (j : Nat) (x0 : List Int), j + m = l.length → x0.length + m * s < 70368744177664 →
    Ev (fun k => entry_put.l0 k x0 (s : Int) l (l.length : Int) (j : Int)) (x0 ++ putP s (l.drop j)) := by
  induction m with
  | zero =>
    intro j x0 hj hx
    refine ev_one fun k => ?_
    show entry_put.l0 (k + 1) x0 (s : Int) l _ _ = _
    rw [entry_put.l0, if_neg (by omega), List.drop_of_length_le (by omega)]
    simp [putP]
  | succ m ih =>
    intro j x0 hj hx
    have hlt : j < l.length := by omega
    have h1 := ih (j + 1) (x0 ++ numP s l[j]) (by omega) (by rw [List.length_append, numP_length]; rw [Nat.add_mul] at hx; omega)
    rw [List.append_assoc, show numP s l[j] ++ putP s (l.drop (j + 1)) = putP s (l.drop j) from by rw [List.drop_eq_getElem_cons hlt]; rfl] at h1
    have h2 := put_digits l[j] s hs (s : Int) l (l.length : Int) (j : Int) _ x0 (by rw [Nat.add_mul] at hx; omega) (by
      rw [wrap_id (by omega) (by omega), show (j : Int) + 1 = ((j + 1 : Nat) : Int) from by omega]; exact h1)
    refine ev_to _ h2 fun k => ?_
    show entry_put.l0 (k + 1) x0 (s : Int) l _ _ = _
    have e : wrap64 (8 * wrap64 ((s : Int) - 1)) = 8 * (s : Int) - 8 := by
      rw [wrap_id (x := (s : Int) - 1) (by omega) (by omega), wrap_id (by omega) (by omega)]; omega
    have e2 : rd l (j : Int) = l[j] := by unfold rd; rw [Int.toNat_natCast, List.getD_eq_getElem?_getD, List.getElem?_eq_getElem hlt]; rfl
    rw [entry_put.l0, if_pos (by omega), if_pos (by omega), if_pos (by omega), e, e2]
theorem put_ev (s : Nat) (hs : s ≤ 6) (l : List Int) (hl : l.length ≤ 1000000) (x0 : List Int) (hx : x0.length + l.length * s < 70368744177664) : Ev (fun k => entry_put.f k x0 (s : Int) l) (x0 ++ putP s l) :=
  put_loop s hs l hl l.length 0 x0 (by omega) hx
/-- A text behind its length. -/
def textP (s : ByteArray) : List Int := numP 2 (s.size : Int) ++ bytesOf s
theorem textP_length (s : ByteArray) : (textP s).length = 2 + s.size := by rw [textP, List.length_append, numP_length, bytesOf_length]
def textsP (l : List ByteArray) : List Int := l.flatMap textP
theorem textsP_cons (s : ByteArray) (l : List ByteArray) : textsP (s :: l) = textP s ++ textsP l := List.flatMap_cons
theorem texts_loop (l : List ByteArray) (hl : l.length ≤ 1000000) (m : Nat) : ∀ (j : Nat) (x0 : List Int), j + m = l.length → x0.length + (textsP (l.drop j)).length < 70368744177664 →
    Ev (fun k => entry_texts.l0 k x0 l (l.length : Int) (j : Int)) (x0 ++ textsP (l.drop j)) := by
  induction m with
  | zero =>
    intro j x0 hj hx
    refine ev_one fun k => ?_
    show entry_texts.l0 (k + 1) x0 l _ _ = _
    rw [entry_texts.l0, if_neg (by omega), List.drop_of_length_le (by omega)]
    simp [textsP]
  | succ m ih =>
    intro j x0 hj hx
    have hlt : j < l.length := by omega
    rw [List.drop_eq_getElem_cons hlt, textsP_cons, List.length_append, textP_length] at hx
    have h1 := ih (j + 1) (x0 ++ textP l[j]) (by omega) (by rw [List.length_append, textP_length]; omega)
    rw [List.append_assoc, ← textsP_cons, ← List.drop_eq_getElem_cons hlt] at h1
    have e2 : rdOf ByteArray.empty l (j : Int) = l[j] := by unfold rdOf; rw [Int.toNat_natCast, List.getD_eq_getElem?_getD, List.getElem?_eq_getElem hlt]; rfl
    have h3 := put_ev 2 (by omega) [(l[j].size : Int)] (by simp) x0 (by simp; omega)
    have h4 : putP 2 [(l[j].size : Int)] = numP 2 (l[j].size : Int) := by simp [putP]
    rw [h4] at h3
    refine ev_to (fun k => (entry_put.f k x0 2 [(l[j].size : Int)]).bind fun t => if t.length + l[j].size < 140737488355328 then entry_texts.l0 k (t ++ bytesOf l[j]) l (l.length : Int) (wrap64 ((j : Int) + 1)) else none) (ev_bind h3 ?_) fun k => ?_
    · refine ev_eq _ h1 fun k => ?_
      rw [if_pos (by rw [List.length_append, numP_length]; omega), wrap_id (by omega) (by omega), List.append_assoc]
      rfl
    · show entry_texts.l0 (k + 1) x0 l _ _ = _
      rw [entry_texts.l0, if_pos (by omega), if_pos (by omega), if_pos (by omega), e2]
theorem texts_ev (l : List ByteArray) (hl : l.length ≤ 1000000) (x0 : List Int) (hx : x0.length + (textsP l).length < 70368744177664) : Ev (fun k => entry_texts.f k x0 l) (x0 ++ textsP l) :=
  texts_loop l hl l.length 0 x0 (by omega) hx
/-! ### sums -/
def stepP (n c : Int) : Int := ((n.toNat ^^^ c.toNat : Nat) : Int) * 16777619 % 4294967296
def sumP (l : List Int) : Int := l.foldl stepP 2166136261
theorem stepP_rng (n c : Int) : 0 ≤ stepP n c ∧ stepP n c < 4294967296 := by unfold stepP; omega
theorem fold_rng (l : List Int) : ∀ n : Int, 0 ≤ n ∧ n < 4294967296 → 0 ≤ l.foldl stepP n ∧ l.foldl stepP n < 4294967296 := by
  induction l with
  | nil => intro n h; exact h
  | cons c l ih => intro n h; exact ih _ (stepP_rng n c)
theorem sumP_rng (l : List Int) : 0 ≤ sumP l ∧ sumP l < 4294967296 := fold_rng l _ (by omega)
theorem rd_at (l : List Int) (j : Nat) (h : j < l.length) : rd l (j : Int) = l[j] := by unfold rd; rw [Int.toNat_natCast, List.getD_eq_getElem?_getD, List.getElem?_eq_getElem h]; rfl
theorem sum_loop (l : List Int) (hl : l.length ≤ 1000000000000) (hr : ∀ x ∈ l, 0 ≤ x ∧ x < 256) (m : Nat) : ∀ (j : Nat) (n : Int), j + m = l.length → 0 ≤ n ∧ n < 4294967296 →
    Ev (fun k => entry_sum.l0 k n l (l.length : Int) (j : Int)) ((l.drop j).foldl stepP n) := by
  induction m with
  | zero =>
    intro j n hj hn
    refine ev_one fun k => ?_
    show entry_sum.l0 (k + 1) n l _ _ = _
    rw [entry_sum.l0, if_neg (by omega), List.drop_of_length_le (by omega), wrap_id (by omega) (by omega)]
    rfl
  | succ m ih =>
    intro j n hj hn
    have hlt : j < l.length := by omega
    have hc := hr l[j] (List.getElem_mem hlt)
    refine ev_to _ (ev_rw (ih (j + 1) (stepP n l[j]) (by omega) (stepP_rng _ _)) (by rw [List.drop_eq_getElem_cons hlt]; rfl)) fun k => ?_
    show entry_sum.l0 (k + 1) n l _ _ = _
    have e : ((Go.bits .xor .u32 n (l[j] % 4294967296)) * 16777619) % 4294967296 = stepP n l[j] := by
      rw [Int.emod_eq_of_lt hc.1 (by omega), u32_xor n l[j] hn.1 hn.2 hc.1 (by omega)]; rfl
    rw [entry_sum.l0, if_pos (by omega), if_pos (by omega), if_pos (by omega), rd_at l j hlt, e, wrap_id (by omega) (by omega), show (j : Int) + 1 = ((j + 1 : Nat) : Int) from by omega]
theorem sum_ev (l : List Int) (hl : l.length ≤ 1000000000000) (hr : ∀ x ∈ l, 0 ≤ x ∧ x < 256) : Ev (fun k => entry_sum.f k l) (sumP l) :=
  sum_loop l hl hr l.length 0 _ (by omega) (by omega)
theorem xor_lt (n c : Int) (hn : 0 ≤ n ∧ n < 4294967296) (hc : 0 ≤ c ∧ c < 256) : n.toNat ^^^ c.toNat < 4294967296 := Nat.xor_lt_two_pow (n := 32) (by omega) (by omega)
theorem back_step (x : Int) (h0 : 0 ≤ x) (h1 : x < 4294967296) : x * 16777619 % 4294967296 * 899433627 % 4294967296 = x := by omega
theorem xor_cancel (a b c : Nat) (h : a ^^^ c = b ^^^ c) : a = b := by
  have := congrArg (· ^^^ c) h
  simpa [Nat.xor_assoc] using this
/-- A step of a sum can be gone back. -/
theorem back_inj (x y : Nat) (h1 : x < 4294967296) (h2 : y < 4294967296) (h : (x : Int) * 16777619 % 4294967296 = (y : Int) * 16777619 % 4294967296) : x = y := by
  have h3 := back_step (x : Int) (Int.natCast_nonneg _) (Int.ofNat_lt.2 h1)
  have h4 := back_step (y : Int) (Int.natCast_nonneg _) (Int.ofNat_lt.2 h2)
  rw [h] at h3
  exact Int.ofNat.inj (h3.symm.trans h4)
theorem stepP_inj (a b c d : Int) (ha : 0 ≤ a ∧ a < 4294967296) (hb : 0 ≤ b ∧ b < 4294967296) (hc : 0 ≤ c ∧ c < 256) (hd : 0 ≤ d ∧ d < 256) (h : stepP a c = stepP b d) : a.toNat ^^^ c.toNat = b.toNat ^^^ d.toNat :=
  back_inj _ _ (xor_lt a c ha hc) (xor_lt b d hb hd) h
theorem fold_inj (l : List Int) (hr : ∀ x ∈ l, 0 ≤ x ∧ x < 256) : ∀ a b : Int, 0 ≤ a ∧ a < 4294967296 → 0 ≤ b ∧ b < 4294967296 → l.foldl stepP a = l.foldl stepP b → a = b := by
  induction l with
  | nil => intro a b _ _ h; exact h
  | cons c l ih =>
    intro a b ha hb h
    have hc := hr c (List.mem_cons_self ..)
    have h2 := ih (fun x hx => hr x (List.mem_cons_of_mem _ hx)) _ _ (stepP_rng a c) (stepP_rng b c) h
    have h3 := stepP_inj a b c c ha hb hc hc h2
    have h4 : a.toNat = b.toNat := xor_cancel _ _ _ h3
    omega
/-- A sum tells a byte that is turned. -/
theorem sumP_turned (l m : List Int) (x y : Int) (hl : ∀ x ∈ l, 0 ≤ x ∧ x < 256) (hm : ∀ x ∈ m, 0 ≤ x ∧ x < 256) (hx : 0 ≤ x ∧ x < 256) (hy : 0 ≤ y ∧ y < 256) (h : sumP (l ++ x :: m) = sumP (l ++ y :: m)) : x = y := by
  unfold sumP at h
  rw [List.foldl_append, List.foldl_append] at h
  have h0 := fold_rng l 2166136261 (by omega)
  generalize l.foldl stepP 2166136261 = n at *
  have h1 := fold_inj m hm _ _ (stepP_rng n x) (stepP_rng n y) h
  have h2 := stepP_inj n n x y h0 h0 hx hy h1
  have h4 : x.toNat = y.toNat := xor_cancel _ _ n.toNat (by rw [Nat.xor_comm x.toNat, Nat.xor_comm y.toNat]; exact h2)
  omega
end Go.Proofs.YtllnleokjcimhaaDoor.Pure
/-
The plain law, part 2: which entries are right, and which a version can have.
-/
namespace Go.Proofs.YtllnleokjcimhaaDoor.Pure
open Go.RowKit Go.Proofs.YtllnleokjcimhaaDoor.P Go.Proofs.YtllnleokjcimhaaDoor.En Go.Proofs.YtllnleokjcimhaaDoorW.PrintWords Go.Proofs.YtllnleokjcimhaaDoorW.PrintLast Go.Proofs.YtllnleokjcimhaaDoorW.PrintMore
set_option linter.unusedVariables false
set_option linter.unusedSimpArgs false
/-! ### names -/
def nameP (s : ByteArray) : Bool := tokS s.data.toList && decide (lowS s.data.toList = s.data.toList) && decide (s.size ≤ 64)
def goodP (l : List ByteArray) : Nat → Nat → Bool
  | 0, _ => true
  | m + 1, j => nameP (rdOf ByteArray.empty l (j : Int)) && (decide (j = 0) || Op.bytesLess (rdOf ByteArray.empty l ((j - 1 : Nat) : Int)).toList (rdOf ByteArray.empty l (j : Int)).toList) && goodP l m (j + 1)
def namesP (l : List ByteArray) : Bool := decide (l.length ≤ 8) && goodP l l.length 0
theorem low_eq (s : ByteArray) : ((⟨(lowS s.data.toList).toArray⟩ : ByteArray).toList = s.toList) = (lowS s.data.toList = s.data.toList) := by rw [tl, tl]
theorem rdOf_size {l : List ByteArray} {B : Nat} (hB : ∀ s ∈ l, s.size ≤ B) (j : Nat) (h : j < l.length) : (rdOf ByteArray.empty l (j : Int)).size ≤ B := by
  unfold rdOf
  rw [Int.toNat_natCast, List.getD_eq_getElem?_getD, List.getElem?_eq_getElem h]
  exact hB _ (List.getElem_mem h)
theorem names_step (tok : Bool) (s : ByteArray) (j : Nat) (x rest : Option Bool) (b : Bool) (hx : x = some b) (lt r : Bool) (hr : rest = some r) (ht : tok = tokS s.data.toList) :
    (if tok = true then (some (⟨(lowS s.data.toList).toArray⟩ : ByteArray)).bind fun t105 => (if t105.toList = s.toList then (if (s.size : Int) > 64 then (some false) else (if (j : Int) > 0 then (if lt = true then rest else some false) else rest)) else (some false)) else some false) =
    some (nameP s && (decide (j = 0) || lt) && r) := by
  subst ht hr
  unfold nameP
  simp only [Option.bind_some, low_eq]
  by_cases h1 : tokS s.data.toList = true
  · rw [if_pos h1, h1]
    by_cases h2 : lowS s.data.toList = s.data.toList
    · rw [if_pos h2]
      by_cases h3 : (s.size : Int) > 64
      · rw [if_pos h3]; simp [show ¬ s.size ≤ 64 from by omega]
      · rw [if_neg h3]
        by_cases h4 : (j : Int) > 0
        · rw [if_pos h4]
          cases lt <;> simp [h2, show s.size ≤ 64 from by omega, show j ≠ 0 from by omega]
        · rw [if_neg h4]
          simp [h2, show s.size ≤ 64 from by omega, show j = 0 from by omega]
    · rw [if_neg h2]; simp [h2]
  · rw [if_neg h1]
    simp [Bool.eq_false_iff.2 h1]
theorem names_loop (l : List ByteArray) (hl : l.length ≤ 1000000) (hB : ∀ s ∈ l, s.size ≤ 1000000) (m : Nat) : ∀ j : Nat, j + m = l.length → Ev (fun k => entry_names.l0 k l l (l.length : Int) (j : Int)) (goodP l m j && decide (l.length ≤ 8)) := by
  induction m with
  | zero =>
    intro j hj
    refine ev_one fun k => ?_
    show entry_names.l0 (k + 1) l l _ _ = _
    rw [entry_names.l0, if_neg (by omega), goodP, Bool.true_and]
    congr 1
    exact decide_eq_decide.2 (by omega)
  | succ m ih =>
    intro j hj
    have hs := rdOf_size hB j (by omega)
    obtain ⟨K1, h1⟩ := token_sign (rdOf ByteArray.empty l (j : Int)) (by omega)
    obtain ⟨K2, h2⟩ := ih (j + 1) (by omega)
    refine ⟨K1 + K2 + 1, fun k hk => ?_⟩
    obtain ⟨k, rfl⟩ : ∃ n, k = n + 1 := ⟨k - 1, by omega⟩
    show entry_names.l0 (k + 1) l l _ _ = _
    have h1 := h1 k (by omega)
    have h2 := h2 k (by omega)
    dsimp only at h1 h2
    rw [entry_names.l0, if_pos (by omega), if_pos (by omega), if_pos (by omega), h1, lower_sign _ (by omega), wrap_id (x := (j : Int) + 1) (by omega) (by omega), show (j : Int) + 1 = ((j + 1 : Nat) : Int) from by omega, h2]
    rw [Option.bind_some]
    by_cases h4 : (j : Int) > 0
    · rw [if_pos h4, wrap_id (x := (j : Int) - 1) (by omega) (by omega), show (j : Int) - 1 = ((j - 1 : Nat) : Int) from by omega, if_pos (show (0 : Int) ≤ ((j - 1 : Nat) : Int) from by omega), if_pos (show ((j - 1 : Nat) : Int) < (l.length : Int) from by omega)]
      have := names_step _ (rdOf ByteArray.empty l (j : Int)) j (some true) _ true rfl (Op.bytesLess (rdOf ByteArray.empty l ((j - 1 : Nat) : Int)).toList (rdOf ByteArray.empty l (j : Int)).toList) (goodP l m (j + 1) && decide (l.length ≤ 8)) rfl rfl
      rw [if_pos h4] at this
      rw [this, goodP]; simp only [Bool.and_assoc]
    · rw [if_neg h4]
      have := names_step _ (rdOf ByteArray.empty l (j : Int)) j (some true) _ true rfl (Op.bytesLess (rdOf ByteArray.empty l ((j - 1 : Nat) : Int)).toList (rdOf ByteArray.empty l (j : Int)).toList) (goodP l m (j + 1) && decide (l.length ≤ 8)) rfl rfl
      rw [if_neg h4] at this
      rw [this, goodP]; simp only [Bool.and_assoc]
theorem names_ev (l : List ByteArray) (hl : l.length ≤ 1000000) (hB : ∀ s ∈ l, s.size ≤ 1000000) : Ev (fun k => entry_names.f k l) (namesP l) :=
  ev_rw (names_loop l hl hB l.length 0 (by omega)) (by unfold namesP; exact Bool.and_comm _ _)
theorem goodP_size (l : List ByteArray) (m : Nat) : ∀ j : Nat, j + m = l.length → goodP l m j = true → ∀ s ∈ l.drop j, s.size ≤ 64 := by
  induction m with
  | zero => intro j hj _ s hs; rw [List.drop_of_length_le (by omega)] at hs; cases hs
  | succ m ih =>
    intro j hj h s hs
    rw [goodP, Bool.and_eq_true, Bool.and_eq_true] at h
    have hlt : j < l.length := by omega
    rw [List.drop_eq_getElem_cons hlt] at hs
    rcases List.mem_cons.1 hs with rfl | hs
    · have h1 := h.1.1
      unfold nameP rdOf at h1
      rw [Int.toNat_natCast, List.getD_eq_getElem?_getD, List.getElem?_eq_getElem hlt] at h1
      simp at h1
      exact h1.2
    · exact ih (j + 1) (by omega) h.2 s hs
theorem namesP_size {l : List ByteArray} (h : namesP l = true) : l.length ≤ 8 ∧ ∀ s ∈ l, s.size ≤ 64 := by
  unfold namesP at h
  rw [Bool.and_eq_true, decide_eq_true_eq] at h
  refine ⟨h.1, fun s hs => goodP_size l l.length 0 (by omega) h.2 s (by simpa using hs)⟩
/-! ### fields -/
def fieldP (p : ByteArray × ByteArray) : Bool := tokS p.1.data.toList && decide (p.1.size ≤ 64) && decide (p.2.size ≤ 1024) && decide (trimB p.2.data.toList = p.2.data.toList) && !(bytesOf p.2).any badI
def fieldsP (l : List (ByteArray × ByteArray)) : Bool := decide (l.length ≤ 64) && l.all fieldP
theorem field_ev (n v : ByteArray) (hn : n.size ≤ 1000000) (hv : v.size ≤ 1000000) : Ev (fun k => field_Field_Right.f k n v) (fieldP (n, v)) := by
  obtain ⟨K, h⟩ := token_sign n (by omega)
  refine ⟨K, fun k hk => ?_⟩
  show field_Field_Right.f k n v = _
  have h : sign_Token.f k n = _ := h k hk
  unfold field_Field_Right.f fieldP
  rw [h, Option.bind_some, trim_sign v (by omega), Option.bind_some]
  by_cases h1 : tokS n.data.toList = true
  · rw [h1, if_neg (by simp)]
    by_cases h2 : 64 < n.size
    · rw [if_pos h2]; simp [show ¬ n.size ≤ 64 from by omega]
    · rw [if_neg h2]
      by_cases h3 : 1024 < v.size
      · rw [if_pos h3]; simp [show ¬ v.size ≤ 1024 from by omega]
      · rw [if_neg h3]
        by_cases h4 : trimB v.data.toList = v.data.toList
        · rw [h4, mk_eta, if_neg (by simp)]; simp [show v.size ≤ 1024 from by omega, show n.size ≤ 64 from by omega, h4]
        · rw [if_pos (fun e => h4 (by have := congrArg (fun t : ByteArray => t.data.toList) e; simpa using this))]
          simp [h4]
  · rw [Bool.eq_false_iff.2 h1]; simp
theorem anyO_ev {α : Type} (p : Nat → α → Option Bool) (q : α → Bool) : ∀ (l : List α), (∀ x ∈ l, Ev (fun k => p k x) (q x)) → Ev (fun k => anyO (p k) l) (l.any q)
  | [], _ => ev_now fun k => rfl
  | x :: l, h => by
    obtain ⟨K1, h1⟩ := h x (List.mem_cons_self ..)
    obtain ⟨K2, h2⟩ := anyO_ev p q l (fun y hy => h y (List.mem_cons_of_mem _ hy))
    refine ⟨K1 + K2, fun k hk => ?_⟩
    show anyO (p k) (x :: l) = _
    have h1 : p k x = _ := h1 k (by omega)
    have h2 : anyO (p k) l = some (l.any q) := h2 k (by omega)
    rw [anyO, h1, Option.bind_some, List.any_cons]
    cases q x
    · rw [if_neg (by simp), h2, Bool.false_or]
    · rw [if_pos rfl, Bool.true_or]
theorem any_not {α : Type} (q : α → Bool) (l : List α) : (!l.any fun x => !q x) = l.all q := by induction l with
  | nil => rfl
  | cons x l ih => rw [List.any_cons, List.all_cons, Bool.not_or, ih, Bool.not_not]
theorem fields_ev (l : List (ByteArray × ByteArray)) (hB : ∀ p ∈ l, p.1.size ≤ 1000000 ∧ p.2.size ≤ 1000000) : Ev (fun k => field_List_Right.f k (flds l)) (fieldsP l) := by
  have hlen : (flds l).length = l.length := by simp [flds]
  unfold fieldsP field_List_Right.f
  rw [hlen]
  by_cases h : l.length ≤ 64
  · have h1 := anyO_ev (fun k (x : S53) => (field_Field_Right.f k x.f0 x.f1).bind fun b => some (!b)) (fun x => !fieldP (x.f0, x.f1)) (flds l) (fun x hx => by
      unfold flds at hx
      obtain ⟨p, hp, rfl⟩ := List.mem_map.1 hx
      have := hB p hp
      exact ev_bind (field_ev p.1 p.2 this.1 this.2) (ev_now fun k => rfl))
    refine ev_rw (ev_eq _ (ev_bind (f := fun _ b => some (!b)) h1 (ev_now fun k => rfl)) fun k => by rw [if_pos h]) ?_
    rw [any_not]
    simp [h, flds, List.all_map, Function.comp_def]
  · refine ev_now fun k => ?_
    rw [if_neg h]; simp [h]
def rflds (l : List (ByteArray × ByteArray)) : List S75 := l.map fun p => ⟨p.1, p.2⟩
/-! ### entries -/
/-- Sizes that an entry may have here. -/
structure Bnd (x : PE) : Prop where
  key : x.key.size ≤ 70000
  second : x.second.size ≤ 70000
  names : x.names.length ≤ 70000
  name : ∀ s ∈ x.names, s.size ≤ 70000
  fields : x.fields.length ≤ 70000
  field : ∀ p ∈ x.fields, p.1.size ≤ 70000 ∧ p.2.size ≤ 70000
  body : x.body.length ≤ 70000
  bytes : ∀ c ∈ x.body, 0 ≤ c ∧ c < 256
def rightP (x : PE) : Bool := decide (1 ≤ x.key.size ∧ x.key.size ≤ 1200 ∧ x.second.size ≤ 600) && namesP x.names && decide (0 ≤ x.asked ∧ x.asked ≤ 253402300799 ∧ 0 ≤ x.came ∧ x.came ≤ 253402300799 ∧ 200 ≤ x.status ∧ x.status ≤ 599) && fieldsP x.fields && decide (x.body.length ≤ 2048 ∧ 1 ≤ x.gen ∧ x.gen ≤ 253402300799)
theorem right_ev (x : PE) (h : Bnd x) : Ev (fun k => entry_Entry_Right.f k x.key x.second x.names x.asked x.came x.status (flds x.fields) x.body x.gen) (rightP x) := by
  obtain ⟨K1, h1⟩ := names_ev x.names (by have := h.names; omega) (fun s hs => by have := h.name s hs; omega)
  obtain ⟨K2, h2⟩ := fields_ev x.fields (fun p hp => by have := h.field p hp; omega)
  refine ⟨K1 + K2, fun k hk => ?_⟩
  have h1 : entry_names.f k x.names = _ := h1 k (by omega)
  have h2 : field_List_Right.f k (flds x.fields) = _ := h2 k (by omega)
  show entry_Entry_Right.f k _ _ _ _ _ _ _ _ _ = _
  unfold entry_Entry_Right.f entry_timed.f rightP
  rw [h1, h2]
  generalize namesP x.names = a
  generalize fieldsP x.fields = b
  cases a <;> cases b <;> simp only [Option.bind_some, Bool.false_eq_true, if_false, if_true]
  all_goals repeat' split
  all_goals simp_all
  all_goals first
    | omega
    | (have e1 : 1 ≤ x.key.size := by omega
       have e2 : x.key.size ≤ 1200 := by omega
       have e3 : x.second.size ≤ 600 := by omega
       have e4 : x.body.length ≤ 2048 := by omega
       simp only [e1, e2, e3, e4, decide_true, Bool.true_and, Bool.and_true]
       by_cases g1 : x.asked ≤ 253402300799 <;> by_cases g2 : x.came ≤ 253402300799 <;> simp [g1, g2])
def fitsP (x : PE) (v : Int) : Bool := rightP x && decide (1 ≤ v ∧ v ≤ 3) && decide (v = 3 ∨ (x.second.size = 0 ∧ x.names.length = 0)) && decide (v ≠ 1 ∨ x.gen = 1)
theorem size_nil (s : ByteArray) : (s.toList = ([] : List UInt8)) = (s.size = 0) := by
  rw [tl, sz, List.length_eq_zero_iff]
theorem fits_ev (x : PE) (v : Int) (h : Bnd x) : Ev (fun k => entry_Entry_Fits.f k x.key x.second x.names x.asked x.came x.status (flds x.fields) x.body x.gen v) (fitsP x v) := by
  obtain ⟨K, hK⟩ := right_ev x h
  refine ⟨K + 1, fun k hk => ?_⟩
  obtain ⟨k, rfl⟩ : ∃ n, k = n + 1 := ⟨k - 1, by omega⟩
  have hK : entry_Entry_Right.f k x.key x.second x.names x.asked x.came x.status (flds x.fields) x.body x.gen = _ := hK k (by omega)
  show entry_Entry_Fits.f (k + 1) _ _ _ _ _ _ _ _ _ _ = _
  unfold entry_Entry_Fits.f fitsP
  simp only [size_nil]
  rw [entry_Entry_Fits.j0, entry_Entry_Fits.j0, hK, Option.bind_some]
  generalize rightP x = b
  cases b
  · simp only [Bool.false_eq_true, if_false, Bool.false_and]
    repeat' split
    all_goals rfl
  · by_cases c1 : x.second.size = 0
    · rw [if_pos c1]
      by_cases c2 : v = 1
      · subst c2; simp [c1]; cases h : x.names <;> (try simp [h]) <;> (try rfl) <;> (try omega)
      · by_cases c3 : v = 2
        · subst c3; simp [c1]; cases h : x.names <;> (try simp [h]) <;> (try rfl) <;> (try omega)
        · by_cases c4 : v = 3
          · subst c4; simp
          · simp [c2, c3, c4]; omega
    · rw [if_neg c1]
      by_cases c2 : v = 1
      · subst c2; simp [c1]
      · by_cases c3 : v = 2
        · subst c3; simp [c1]
        · by_cases c4 : v = 3
          · subst c4; simp
          · simp [c2, c3, c4]; omega
end Go.Proofs.YtllnleokjcimhaaDoor.Pure
/-
The plain law, part 3: an entry's record.
-/
namespace Go.Proofs.YtllnleokjcimhaaDoor.Pure
open Go.RowKit Go.Proofs.YtllnleokjcimhaaDoor.P Go.Proofs.YtllnleokjcimhaaDoor.En Go.Proofs.YtllnleokjcimhaaDoorW.PrintWords Go.Proofs.YtllnleokjcimhaaDoorW.PrintLast Go.Proofs.YtllnleokjcimhaaDoorW.PrintMore
set_option linter.unusedVariables false
set_option linter.unusedSimpArgs false
def fieldsB (l : List (ByteArray × ByteArray)) : List Int := l.flatMap fun p => textP p.1 ++ textP p.2
theorem fieldsB_cons (p : ByteArray × ByteArray) (l : List (ByteArray × ByteArray)) : fieldsB (p :: l) = textP p.1 ++ textP p.2 ++ fieldsB l := List.flatMap_cons
theorem fieldsB_length (l : List (ByteArray × ByteArray)) {B : Nat} (h : ∀ p ∈ l, p.1.size ≤ B ∧ p.2.size ≤ B) : (fieldsB l).length ≤ l.length * (2 * B + 4) := by
  induction l with
  | nil => simp [fieldsB]
  | cons p l ih =>
    have h1 := h p (List.mem_cons_self ..)
    have h2 := ih (fun q hq => h q (List.mem_cons_of_mem _ hq))
    rw [fieldsB_cons, List.length_append, List.length_append, textP_length, textP_length, List.length_cons, Nat.add_mul]
    omega
theorem textsP_len (l : List ByteArray) {B : Nat} (h : ∀ p ∈ l, p.size ≤ B) : (textsP l).length ≤ l.length * (B + 2) := by
  induction l with
  | nil => simp [textsP]
  | cons p l ih =>
    have h1 := h p (List.mem_cons_self ..)
    have h2 := ih (fun q hq => h q (List.mem_cons_of_mem _ hq))
    rw [textsP_cons, List.length_append, textP_length, List.length_cons, Nat.add_mul]
    omega
theorem bytesOf_rng (s : ByteArray) : ∀ c ∈ bytesOf s, 0 ≤ c ∧ c < 256 := by
  intro c hc
  obtain ⟨b, _, rfl⟩ := List.mem_map.1 hc
  have := b.toNat_lt
  omega
theorem rng_app {a b : List Int} (ha : ∀ c ∈ a, 0 ≤ c ∧ c < 256) (hb : ∀ c ∈ b, 0 ≤ c ∧ c < 256) : ∀ c ∈ a ++ b, 0 ≤ c ∧ c < 256 := by
  intro c hc
  rcases List.mem_append.1 hc with h | h
  · exact ha c h
  · exact hb c h
theorem textP_rng (s : ByteArray) : ∀ c ∈ textP s, 0 ≤ c ∧ c < 256 := rng_app (numP_rng _ _) (bytesOf_rng s)
theorem textsP_rng (l : List ByteArray) : ∀ c ∈ textsP l, 0 ≤ c ∧ c < 256 := by
  intro c hc
  obtain ⟨s, _, h⟩ := List.mem_flatMap.1 hc
  exact textP_rng s c h
theorem fieldsB_rng (l : List (ByteArray × ByteArray)) : ∀ c ∈ fieldsB l, 0 ≤ c ∧ c < 256 := by
  intro c hc
  obtain ⟨s, _, h⟩ := List.mem_flatMap.1 hc
  exact rng_app (textP_rng _) (textP_rng _) c h
theorem strOfNums_size' (l : List Int) : (strOfNums l).size = l.length := strOfNums_size l
/-- What goes ahead of the key. -/
def headB (v : Int) (x : PE) : List Int := if v = 3 then textP x.second ++ (numP 2 (x.names.length : Int) ++ textsP x.names) else []
def genB (v : Int) (x : PE) : List Int := if 1 < v then numP 6 x.gen else []
def restP (v : Int) (x : PE) : List Int := headB v x ++ (genB v x ++ (textP x.key ++ (numP 6 x.asked ++ (numP 6 x.came ++ (numP 6 x.status ++ (numP 2 (x.fields.length : Int) ++ (fieldsB x.fields ++ textP (strOfNums x.body))))))))
def recOf (v : Int) (r : List Int) : List Int := [69, v % 256] ++ numP 2 (r.length : Int) ++ numP 4 (sumP r) ++ r
def encP (v : Int) (x : PE) : List Int × Int := if v < 1 ∨ 3 < v then ([], 50) else if rightP x = false then ([], 10) else if fitsP x v = false then ([], 51) else if 3992 < (restP v x).length then ([], 23) else (recOf v (restP v x), 0)
theorem headB_rng (v : Int) (x : PE) : ∀ c ∈ headB v x, 0 ≤ c ∧ c < 256 := by
  unfold headB
  split
  · exact rng_app (textP_rng _) (rng_app (numP_rng _ _) (textsP_rng _))
  · intro c hc; cases hc
theorem genB_rng (v : Int) (x : PE) : ∀ c ∈ genB v x, 0 ≤ c ∧ c < 256 := by
  unfold genB
  split
  · exact numP_rng _ _
  · intro c hc; cases hc
theorem restP_rng (v : Int) (x : PE) : ∀ c ∈ restP v x, 0 ≤ c ∧ c < 256 :=
  rng_app (headB_rng v x) (rng_app (genB_rng v x) (rng_app (textP_rng _) (rng_app (numP_rng _ _) (rng_app (numP_rng _ _) (rng_app (numP_rng _ _) (rng_app (numP_rng _ _) (rng_app (fieldsB_rng _) (textP_rng _))))))))
theorem headB_len (v : Int) (x : PE) (h : Bnd x) : (headB v x).length ≤ 5000000000 := by
  unfold headB
  split
  · have h1 := textsP_len x.names h.name
    have h2 := h.names
    have h3 := h.second
    have h4 : x.names.length * (70000 + 2) ≤ 70000 * 70002 := Nat.mul_le_mul h2 (Nat.le_refl _)
    rw [List.length_append, List.length_append, textP_length, numP_length]
    omega
  · simp
theorem fieldsB_len (x : PE) (h : Bnd x) : (fieldsB x.fields).length ≤ 10000000000 := by
  have h1 := fieldsB_length x.fields (B := 70000) (fun p hp => h.field p hp)
  have h2 := h.fields
  have h4 : x.fields.length * (2 * 70000 + 4) ≤ 70000 * 140004 := Nat.mul_le_mul h2 (Nat.le_refl _)
  omega
/-- Numbers that a right entry has. -/
theorem rightP_nums {x : PE} (h : rightP x = true) : (1 ≤ x.key.size ∧ x.key.size ≤ 1200 ∧ x.second.size ≤ 600) ∧ namesP x.names = true ∧ (0 ≤ x.asked ∧ x.asked ≤ 253402300799 ∧ 0 ≤ x.came ∧ x.came ≤ 253402300799 ∧ 200 ≤ x.status ∧ x.status ≤ 599) ∧ fieldsP x.fields = true ∧ (x.body.length ≤ 2048 ∧ 1 ≤ x.gen ∧ x.gen ≤ 253402300799) := by
  unfold rightP at h
  simp only [Bool.and_eq_true, decide_eq_true_eq] at h
  exact ⟨h.1.1.1.1, h.1.1.1.2, h.1.1.2, h.1.2, h.2⟩
/-! ### the program's -/
def encT (k : Nat) (v : Int) (t185 : List Int) : Option (List Int × Int) := if (t185.length : Int) > 3992 then (some (([] : List Int), 23)) else ((entry_put.f k (([69, (v) % 256] : List Int)) 2 (([(t185.length : Int)] : List Int))).bind fun t194 => ((entry_sum.f k t185).bind fun t197 => ((entry_put.f k t194 4 (([t197] : List Int))).bind fun t201 => (if t201.length + t185.length < 140737488355328 then (some ((t201 ++ t185), 0)) else (none)))))
theorem putP_one (s : Nat) (n : Int) : putP s [n] = numP s n := by simp [putP]
theorem encT_ev (v : Int) (r : List Int) (hl : r.length ≤ 30000000000) (hr : ∀ c ∈ r, 0 ≤ c ∧ c < 256) : Ev (fun k => encT k v r) (if 3992 < r.length then ([], 23) else (recOf v r, 0)) := by
  unfold encT
  by_cases c : (r.length : Int) > 3992
  · rw [if_pos (by omega)]
    exact ev_now fun k => by rw [if_pos c]
  · rw [if_neg (by omega)]
    have h1 := put_ev 2 (by omega) [(r.length : Int)] (by simp) [69, v % 256] (by simp)
    have h2 := put_ev 4 (by omega) [sumP r] (by simp) ([69, v % 256] ++ numP 2 (r.length : Int)) (by simp [numP_length])
    rw [putP_one] at h1 h2
    refine ev_eq _ (ev_bind h1 (ev_bind (sum_ev r (by omega) hr) (ev_bind h2 (ev_now fun k => ?_)))) fun k => by rw [if_neg c]; rfl
    rw [if_pos (by simp only [List.length_append, numP_length, List.length_cons, List.length_nil]; omega)]
    rfl
theorem enc_loop (v : Int) (x : PE) (h : Bnd x) (l : List (ByteArray × ByteArray)) (hl : ∀ p ∈ l, p.1.size ≤ 70000 ∧ p.2.size ≤ 70000) (hn : l.length ≤ 70000) (r : List Int × Int) (m : Nat) : ∀ (j : Nat) (b : List Int), j + m = l.length → b.length + (fieldsB (l.drop j)).length ≤ 25000000000 →
    Ev (fun k => encT k v (b ++ fieldsB (l.drop j) ++ textP (strOfNums x.body))) r →
    Ev (fun k => entry_Encode.l0 k v b (flds l) (l.length : Int) (j : Int) x.key x.second x.names x.asked x.came x.status (flds x.fields) x.body x.gen) r := by
  have hlen : (flds l).length = l.length := by simp [flds]
  have hb5 := h.body
  induction m with
  | zero =>
    intro j b hj hb hr
    rw [List.drop_of_length_le (by omega)] at hr hb
    have e0 : fieldsB [] = [] := rfl
    rw [e0, List.append_nil] at hr
    have h3 := texts_ev [strOfNums x.body] (by simp) b (by rw [textsP_cons]; simp only [List.length_append, textP_length, strOfNums_size', textsP, List.flatMap_nil, List.length_nil]; omega)
    have e1 : textsP [strOfNums x.body] = textP (strOfNums x.body) := by rw [textsP_cons]; simp [textsP]
    rw [e1] at h3
    refine ev_to (fun k => (entry_texts.f k b [strOfNums x.body]).bind fun t => encT k v t) (ev_bind h3 hr) fun k => ?_
    show entry_Encode.l0 (k + 1) v b _ _ _ _ _ _ _ _ _ _ _ _ = _
    rw [entry_Encode.l0, if_neg (by omega)]
    rfl
  | succ m ih =>
    intro j b hj hb hr
    have hlt : j < l.length := by omega
    have h1 := hl l[j] (List.getElem_mem hlt)
    rw [List.drop_eq_getElem_cons hlt, fieldsB_cons] at hr hb
    simp only [List.length_append, textP_length] at hb
    have h3 := texts_ev [l[j].1, l[j].2] (by simp) b (by simp only [textsP, List.flatMap_cons, List.flatMap_nil, List.length_append, textP_length, List.length_nil]; omega)
    have e1 : textsP [l[j].1, l[j].2] = textP l[j].1 ++ textP l[j].2 := by simp [textsP]
    rw [e1] at h3
    have h4 := ih (j + 1) (b ++ (textP l[j].1 ++ textP l[j].2)) (by omega) (by simp only [List.length_append, textP_length]; omega) (by
      simp only [List.append_assoc] at hr ⊢; exact hr)
    refine ev_to (fun k => (entry_texts.f k b [l[j].1, l[j].2]).bind fun t => entry_Encode.l0 k v t (flds l) (l.length : Int) ((j + 1 : Nat) : Int) x.key x.second x.names x.asked x.came x.status (flds x.fields) x.body x.gen) (ev_bind h3 h4) fun k => ?_
    show entry_Encode.l0 (k + 1) v b _ _ _ _ _ _ _ _ _ _ _ _ = _
    have e : rd_T53 (flds l) (j : Int) = ⟨l[j].1, l[j].2⟩ := by
      unfold rd_T53 flds
      rw [Int.toNat_natCast, List.getD_eq_getElem?_getD, List.getElem?_map, List.getElem?_eq_getElem hlt]; rfl
    rw [entry_Encode.l0, if_pos (by omega), if_pos (by omega), if_pos (by omega), e, wrap_id (by omega) (by omega)]
    rfl
theorem enc_j2 (v : Int) (x : PE) (h : Bnd x) (hr : rightP x = true) (b : List Int) (hb : b.length ≤ 6000000000) (hg : ∀ c ∈ b, 0 ≤ c ∧ c < 256) (r : List Int) (hrr : r = b ++ (textP x.key ++ (numP 6 x.asked ++ (numP 6 x.came ++ (numP 6 x.status ++ (numP 2 (x.fields.length : Int) ++ (fieldsB x.fields ++ textP (strOfNums x.body)))))))) :
    Ev (fun k => entry_Encode.j2 k v b x.key x.second x.names x.asked x.came x.status (flds x.fields) x.body x.gen) (if 3992 < r.length then ([], 23) else (recOf v r, 0)) := by
  have hlen : (flds x.fields).length = x.fields.length := by simp [flds]
  have l3 := fieldsB_len x h
  have l4 := h.key
  have l5 := h.body
  have l6 := h.fields
  have hrl : r.length ≤ 30000000000 := by
    rw [hrr]; simp only [List.length_append, textP_length, numP_length, strOfNums_size']; omega
  have hrg : ∀ c ∈ r, 0 ≤ c ∧ c < 256 := by
    rw [hrr]
    exact rng_app hg (rng_app (textP_rng _) (rng_app (numP_rng _ _) (rng_app (numP_rng _ _) (rng_app (numP_rng _ _) (rng_app (numP_rng _ _) (rng_app (fieldsB_rng _) (textP_rng _)))))))
  have e1 : textsP [x.key] = textP x.key := by simp [textsP]
  have h1 := texts_ev [x.key] (by simp) b (by rw [e1, textP_length]; omega)
  rw [e1] at h1
  have h2 := put_ev 6 (by omega) [x.asked, x.came, x.status] (by simp) (b ++ textP x.key) (by simp only [List.length_append, textP_length, List.length_cons, List.length_nil]; omega)
  have e2 : putP 6 [x.asked, x.came, x.status] = numP 6 x.asked ++ (numP 6 x.came ++ numP 6 x.status) := by simp [putP]
  rw [e2] at h2
  have h3 := put_ev 2 (by omega) [(x.fields.length : Int)] (by simp) (b ++ textP x.key ++ (numP 6 x.asked ++ (numP 6 x.came ++ numP 6 x.status))) (by simp only [List.length_append, textP_length, numP_length, List.length_cons, List.length_nil]; omega)
  rw [putP_one] at h3
  have h4 := enc_loop v x h x.fields h.field l6 (if 3992 < r.length then ([], 23) else (recOf v r, 0)) x.fields.length 0 (b ++ textP x.key ++ (numP 6 x.asked ++ (numP 6 x.came ++ numP 6 x.status)) ++ numP 2 (x.fields.length : Int)) (by omega) (by
    rw [List.drop_zero]; simp only [List.length_append, textP_length, numP_length]; omega) (by
    have : b ++ textP x.key ++ (numP 6 x.asked ++ (numP 6 x.came ++ numP 6 x.status)) ++ numP 2 (x.fields.length : Int) ++ fieldsB (x.fields.drop 0) ++ textP (strOfNums x.body) = r := by
      rw [hrr, List.drop_zero]; simp only [List.append_assoc]
    rw [this]
    exact encT_ev v r hrl hrg)
  refine ev_to (fun k => (entry_texts.f k b [x.key]).bind fun t159 => (entry_put.f k t159 6 [x.asked, x.came, x.status]).bind fun t165 => (entry_put.f k t165 2 [(x.fields.length : Int)]).bind fun t171 => entry_Encode.l0 k v t171 (flds x.fields) (x.fields.length : Int) 0 x.key x.second x.names x.asked x.came x.status (flds x.fields) x.body x.gen) (ev_bind h1 (ev_bind h2 (ev_bind h3 h4))) fun k => ?_
  show entry_Encode.j2 (k + 1) v b _ _ _ _ _ _ _ _ _ = _
  rw [entry_Encode.j2, hlen]
theorem enc_j1 (v : Int) (x : PE) (h : Bnd x) (hr : rightP x = true) (b : List Int) (hb : b.length ≤ 5000000000) (hg : ∀ c ∈ b, 0 ≤ c ∧ c < 256) (r : List Int) (hrr : r = b ++ (genB v x ++ (textP x.key ++ (numP 6 x.asked ++ (numP 6 x.came ++ (numP 6 x.status ++ (numP 2 (x.fields.length : Int) ++ (fieldsB x.fields ++ textP (strOfNums x.body))))))))) :
    Ev (fun k => entry_Encode.j1 k v b x.key x.second x.names x.asked x.came x.status (flds x.fields) x.body x.gen) (if 3992 < r.length then ([], 23) else (recOf v r, 0)) := by
  unfold genB at hrr
  by_cases c : 1 < v
  · rw [if_pos c, ← List.append_assoc] at hrr
    have h1 := put_ev 6 (by omega) [x.gen] (by simp) b (by simp only [List.length_cons, List.length_nil]; omega)
    rw [putP_one] at h1
    refine ev_to _ (ev_bind (f := fun k t153 => entry_Encode.j2 k v t153 x.key x.second x.names x.asked x.came x.status (flds x.fields) x.body x.gen) h1 (enc_j2 v x h hr (b ++ numP 6 x.gen) (by rw [List.length_append, numP_length]; omega) (rng_app hg (numP_rng _ _)) r hrr)) fun k => ?_
    show entry_Encode.j1 (k + 1) v b _ _ _ _ _ _ _ _ _ = _
    rw [entry_Encode.j1, if_pos c]; rfl
  · rw [if_neg c, List.nil_append] at hrr
    refine ev_to _ (enc_j2 v x h hr b (by omega) hg r hrr) fun k => ?_
    show entry_Encode.j1 (k + 1) v b _ _ _ _ _ _ _ _ _ = _
    rw [entry_Encode.j1, if_neg c]
theorem enc_j0 (v : Int) (x : PE) (h : Bnd x) (bad : Bool) : Ev (fun k => entry_Encode.j0 k v bad x.key x.second x.names x.asked x.came x.status (flds x.fields) x.body x.gen) (if bad = true then ([], 50) else if rightP x = false then ([], 10) else if fitsP x v = false then ([], 51) else if 3992 < (restP v x).length then ([], 23) else (recOf v (restP v x), 0)) := by
  cases bad with
  | true =>
    refine ev_one fun k => ?_
    show entry_Encode.j0 (k + 1) v _ _ _ _ _ _ _ _ _ _ = _
    rw [entry_Encode.j0, if_pos rfl, if_pos rfl]
  | false =>
    rw [if_neg (by decide)]
    obtain ⟨K1, h1⟩ := right_ev x h
    obtain ⟨K2, h2⟩ := fits_ev x v h
    have E : ∀ k, K1 + K2 ≤ k → entry_Encode.j0 (k + 1) v false x.key x.second x.names x.asked x.came x.status (flds x.fields) x.body x.gen = if rightP x = true then (if fitsP x v = true then (if v = 3 then ((entry_texts.f k ([] : List Int) (([x.second] : List ByteArray))).bind fun t138 => ((entry_put.f k t138 2 (([(x.names.length : Int)] : List Int))).bind fun t144 => ((entry_texts.f k t144 x.names).bind fun t147 => (entry_Encode.j1 k v t147 x.key x.second x.names x.asked x.came x.status (flds x.fields) x.body x.gen)))) else (entry_Encode.j1 k v ([] : List Int) x.key x.second x.names x.asked x.came x.status (flds x.fields) x.body x.gen)) else some (([] : List Int), 51)) else some (([] : List Int), 10) := by
      intro k hk
      have h1 : entry_Entry_Right.f k x.key x.second x.names x.asked x.came x.status (flds x.fields) x.body x.gen = _ := h1 k (by omega)
      have h2 : entry_Entry_Fits.f k x.key x.second x.names x.asked x.came x.status (flds x.fields) x.body x.gen v = _ := h2 k (by omega)
      rw [entry_Encode.j0, if_neg (by decide), h1, h2, Option.bind_some, Option.bind_some]
    have conn : ∀ (f : Nat → Option (List Int × Int)) (r : List Int × Int), Ev f r → (∀ k, entry_Encode.j0 (k + 1) v false x.key x.second x.names x.asked x.came x.status (flds x.fields) x.body x.gen = f k ∨ k < K1 + K2) → Ev (fun k => entry_Encode.j0 k v false x.key x.second x.names x.asked x.came x.status (flds x.fields) x.body x.gen) r := by
      intro f r hf he
      obtain ⟨K, hf⟩ := hf
      refine ⟨K + K1 + K2 + 1, fun k hk => ?_⟩
      obtain ⟨k, rfl⟩ : ∃ n, k = n + 1 := ⟨k - 1, by omega⟩
      rcases he k with e | e
      · exact e.trans (hf k (by omega))
      · omega
    cases hrt : rightP x with
    | false =>
      rw [if_pos rfl]
      refine conn _ _ (ev_now (g := fun _ => some (([] : List Int), (10 : Int))) fun k => rfl) fun k => ?_
      by_cases hk : k < K1 + K2
      · exact .inr hk
      · left; rw [E k (by omega), hrt, if_neg (by decide)]
    | true =>
      rw [if_neg (by decide)]
      cases hft : fitsP x v with
      | false =>
        rw [if_pos rfl]
        refine conn _ _ (ev_now (g := fun _ => some (([] : List Int), (51 : Int))) fun k => rfl) fun k => ?_
        by_cases hk : k < K1 + K2
        · exact .inr hk
        · left; rw [E k (by omega), hrt, hft, if_pos rfl, if_neg (by decide)]
      | true =>
        rw [if_neg (by decide)]
        have l7 := h.names
        have l8 := h.second
        have hhl := headB_len v x h
        have hhr := headB_rng v x
        by_cases c : v = 3
        · have l9 : (textP x.second ++ (numP 2 (x.names.length : Int) ++ textsP x.names)).length ≤ 5000000000 := by
            have := hhl; unfold headB at this; rw [if_pos c] at this; exact this
          simp only [List.length_append, textP_length, numP_length] at l9
          have e1 : textsP [x.second] = textP x.second := by simp [textsP]
          have h1 := texts_ev [x.second] (by simp) [] (by rw [e1, textP_length]; simp; omega)
          rw [e1, List.nil_append] at h1
          have h2 := put_ev 2 (by omega) [(x.names.length : Int)] (by simp) (textP x.second) (by rw [textP_length]; simp; omega)
          rw [putP_one] at h2
          have h3 := texts_ev x.names (by omega) (textP x.second ++ numP 2 (x.names.length : Int)) (by simp only [List.length_append, textP_length, numP_length]; omega)
          have h4 := enc_j1 v x h hrt (textP x.second ++ numP 2 (x.names.length : Int) ++ textsP x.names) (by simp only [List.length_append, textP_length, numP_length]; omega) (rng_app (rng_app (textP_rng _) (numP_rng _ _)) (textsP_rng _)) (restP v x) (by
            unfold restP headB; rw [if_pos c]; simp only [List.append_assoc])
          refine conn (fun k => (entry_texts.f k ([] : List Int) (([x.second] : List ByteArray))).bind fun t138 => ((entry_put.f k t138 2 (([(x.names.length : Int)] : List Int))).bind fun t144 => ((entry_texts.f k t144 x.names).bind fun t147 => (entry_Encode.j1 k v t147 x.key x.second x.names x.asked x.came x.status (flds x.fields) x.body x.gen)))) _ (ev_bind h1 (ev_bind h2 (ev_bind h3 h4))) fun k => ?_
          by_cases hk : k < K1 + K2
          · exact .inr hk
          · left; rw [E k (by omega), hrt, hft, if_pos rfl, if_pos rfl, if_pos c]
        · have h4 := enc_j1 v x h hrt [] (by simp) (fun c hc => by cases hc) (restP v x) (by unfold restP headB; rw [if_neg c])
          refine conn _ _ h4 fun k => ?_
          by_cases hk : k < K1 + K2
          · exact .inr hk
          · left; rw [E k (by omega), hrt, hft, if_pos rfl, if_pos rfl, if_neg c]
/-- What Encode tells. -/
theorem enc_ev (v : Int) (x : PE) (h : Bnd x) : Ev (fun k => entry_Encode.f k v x.key x.second x.names x.asked x.came x.status (flds x.fields) x.body x.gen) (encP v x) := by
  unfold encP
  by_cases c1 : v < 1
  · rw [if_pos (.inl c1)]
    exact ev_eq _ (ev_rw (enc_j0 v x h true) (if_pos rfl)) fun k => by show entry_Encode.f k v _ _ _ _ _ _ _ _ _ = _; rw [entry_Encode.f, if_pos c1]
  · by_cases c2 : 3 < v
    · rw [if_pos (.inr c2)]
      exact ev_eq _ (ev_rw (enc_j0 v x h true) (if_pos rfl)) fun k => by show entry_Encode.f k v _ _ _ _ _ _ _ _ _ = _; rw [entry_Encode.f, if_neg c1, decide_eq_true c2]
    · rw [if_neg (by omega)]
      exact ev_eq _ (ev_rw (enc_j0 v x h false) (if_neg (by decide))) fun k => by show entry_Encode.f k v _ _ _ _ _ _ _ _ _ = _; rw [entry_Encode.f, if_neg c1, decide_eq_false c2]
end Go.Proofs.YtllnleokjcimhaaDoor.Pure
/-
The plain law, part 4: what was written is read again, and what is read is written as the same bytes.
-/
namespace Go.Proofs.YtllnleokjcimhaaDoor.Pure
open Go.RowKit Go.Proofs.YtllnleokjcimhaaDoor.P Go.Proofs.YtllnleokjcimhaaDoor.En Go.Proofs.YtllnleokjcimhaaDoorW.PrintWords Go.Proofs.YtllnleokjcimhaaDoorW.PrintLast Go.Proofs.YtllnleokjcimhaaDoorW.PrintMore
set_option linter.unusedVariables false
set_option linter.unusedSimpArgs false
/-! ### written, then read -/
theorem bytes_app (a b : List Int) (n : Nat) (h : a.length = n) : (Rd.mk (a ++ b) false).bytes n = (a, ⟨b, false⟩) := by
  unfold Rd.bytes
  rw [if_neg (by simp; omega)]
  subst h
  simp
theorem get_num2 (n : Int) (b : List Int) (h0 : 0 ≤ n) (h1 : n < 65536) : (Rd.mk (numP 2 n ++ b) false).get 2 = (n, ⟨b, false⟩) := by
  unfold Rd.get
  rw [bytes_app _ _ 2 (numP_length _ _), big_numP2 n h0 h1]
theorem get_num4 (n : Int) (b : List Int) (h0 : 0 ≤ n) (h1 : n < 4294967296) : (Rd.mk (numP 4 n ++ b) false).get 4 = (n, ⟨b, false⟩) := by
  unfold Rd.get
  rw [bytes_app _ _ 4 (numP_length _ _), big_numP4 n h0 h1]
theorem get_num6 (n : Int) (b : List Int) (h0 : 0 ≤ n) (h1 : n < 281474976710656) : (Rd.mk (numP 6 n ++ b) false).get 6 = (n, ⟨b, false⟩) := by
  unfold Rd.get
  rw [bytes_app _ _ 6 (numP_length _ _), big_numP6 n h0 h1]
theorem strOf_bytes (s : ByteArray) : strOfNums (bytesOf s) = s := by
  refine ba_ext ?_
  rw [strOfNums_data]
  unfold bytesOf
  rw [List.map_map]
  conv => rhs; rw [← List.map_id s.data.toList]
  apply List.map_congr_left
  intro b _
  simp
theorem bytes_strOf (l : List Int) (h : ∀ c ∈ l, 0 ≤ c ∧ c < 256) : bytesOf (strOfNums l) = l := by
  unfold bytesOf
  rw [strOfNums_data, List.map_map]
  conv => rhs; rw [← List.map_id l]
  apply List.map_congr_left
  intro c hc
  have := h c hc
  simp
  omega
theorem text_app (s : ByteArray) (b : List Int) (hs : s.size < 65536) : (Rd.mk (textP s ++ b) false).text = (s, ⟨b, false⟩) := by
  unfold Rd.text Rd.textB textP
  rw [List.append_assoc, get_num2 _ _ (by omega) (by omega)]
  simp only [Int.toNat_natCast]
  rw [bytes_app _ _ _ (bytesOf_length s), strOf_bytes]
theorem texts_app (l : List ByteArray) (b : List Int) (hs : ∀ s ∈ l, s.size < 65536) : Rd.texts l.length (Rd.mk (textsP l ++ b) false) = (l, ⟨b, false⟩) := by
  induction l with
  | nil => rfl
  | cons s l ih =>
    rw [List.length_cons, Rd.texts, if_neg (by simp), textsP_cons, List.append_assoc, text_app s _ (hs s (List.mem_cons_self ..)), ih (fun t ht => hs t (List.mem_cons_of_mem _ ht))]
theorem field_app (p : ByteArray × ByteArray) (b : List Int) (h1 : p.1.size < 65536) (h2 : p.2.size < 65536) : (Rd.mk (textP p.1 ++ textP p.2 ++ b) false).field = (p, ⟨b, false⟩) := by
  unfold Rd.field
  rw [List.append_assoc, text_app _ _ h1]
  simp only
  rw [text_app _ _ h2]
theorem fields_app (l : List (ByteArray × ByteArray)) (b : List Int) (hs : ∀ p ∈ l, p.1.size < 65536 ∧ p.2.size < 65536) : Rd.fields l.length (Rd.mk (fieldsB l ++ b) false) = (l, ⟨b, false⟩) := by
  induction l with
  | nil => rfl
  | cons s l ih =>
    have h1 := hs s (List.mem_cons_self ..)
    rw [List.length_cons, Rd.fields, if_neg (by simp), fieldsB_cons, List.append_assoc, field_app s _ h1.1 h1.2, ih (fun t ht => hs t (List.mem_cons_of_mem _ ht))]
theorem fieldsP_size {l : List (ByteArray × ByteArray)} (h : fieldsP l = true) : l.length ≤ 64 ∧ ∀ p ∈ l, p.1.size ≤ 64 ∧ p.2.size ≤ 1024 := by
  unfold fieldsP at h
  rw [Bool.and_eq_true, decide_eq_true_eq, List.all_eq_true] at h
  refine ⟨h.1, fun p hp => ?_⟩
  have := h.2 p hp
  unfold fieldP at this
  simp only [Bool.and_eq_true, decide_eq_true_eq] at this
  exact ⟨this.1.1.1.2, this.1.1.2⟩
theorem fitsP_right {x : PE} {v : Int} (h : fitsP x v = true) : rightP x = true ∧ (1 ≤ v ∧ v ≤ 3) ∧ (v = 3 ∨ (x.second.size = 0 ∧ x.names.length = 0)) ∧ (v ≠ 1 ∨ x.gen = 1) := by
  unfold fitsP at h
  simp only [Bool.and_eq_true, decide_eq_true_eq] at h
  exact ⟨h.1.1.1, h.1.1.2, h.1.2, h.2⟩
theorem empty_of_size {s : ByteArray} (h : s.size = 0) : s = ⟨#[]⟩ := ba_ext (by rw [sz] at h; exact List.length_eq_zero_iff.1 h)
/-- A record's rest is read as its entry. -/
theorem entry_rest (x : PE) (v : Int) (h : fitsP x v = true) (hbd : ∀ c ∈ x.body, 0 ≤ c ∧ c < 256) : (Rd.mk (restP v x) false).entry v = (x, ⟨[], false⟩) := by
  obtain ⟨hr, hv, h3, h1⟩ := fitsP_right h
  obtain ⟨hk, hn, hi, hf, hb⟩ := rightP_nums hr
  have hn := namesP_size hn
  have hf := fieldsP_size hf
  have tail : ∀ (sec : ByteArray) (names : List ByteArray) (gen : Int), tailE ⟨textP x.key ++ (numP 6 x.asked ++ (numP 6 x.came ++ (numP 6 x.status ++ (numP 2 (x.fields.length : Int) ++ (fieldsB x.fields ++ textP (strOfNums x.body)))))), false⟩ sec names gen = (⟨x.key, sec, names, x.asked, x.came, x.status, x.fields, x.body, gen⟩, ⟨[], false⟩) := by
    intro sec names gen
    unfold tailE Rd.fieldsOf
    simp only []
    rw [text_app _ _ (by omega)]
    simp only []
    rw [get_num6 _ _ (by omega) (by omega)]
    simp only []
    rw [get_num6 _ _ (by omega) (by omega)]
    simp only []
    rw [get_num6 _ _ (by omega) (by omega)]
    simp only []
    rw [get_num2 _ _ (by omega) (by omega)]
    simp only [Int.toNat_natCast]
    rw [fields_app _ _ (fun p hp => by have := hf.2 p hp; omega)]
    simp only []
    have ht := text_app (strOfNums x.body) [] (by rw [strOfNums_size']; omega)
    rw [List.append_nil] at ht
    rw [ht, bytes_strOf _ hbd]
  unfold restP headB genB
  rcases (by omega : v = 1 ∨ v = 2 ∨ v = 3) with rfl | rfl | rfl
  · rw [entry_one, if_neg (by decide), if_neg (by decide), List.nil_append, List.nil_append, tail]
    have e1 := empty_of_size (by rcases h3 with h3 | h3; omega; exact h3.1 : x.second.size = 0)
    have e2 : x.names = [] := List.length_eq_zero_iff.1 (by rcases h3 with h3 | h3; omega; exact h3.2)
    have e3 : x.gen = 1 := by rcases h1 with h1 | h1; omega; exact h1
    rw [← e1, ← e2, ← e3]
  · rw [entry_two, if_neg (by decide), if_pos (by decide), List.nil_append, get_num6 _ _ (by omega) (by omega)]
    simp only []
    rw [tail]
    have e1 := empty_of_size (by rcases h3 with h3 | h3; omega; exact h3.1 : x.second.size = 0)
    have e2 : x.names = [] := List.length_eq_zero_iff.1 (by rcases h3 with h3 | h3; omega; exact h3.2)
    rw [← e1, ← e2]
  · rw [entry_three, if_pos rfl, if_pos (by decide), List.append_assoc, text_app _ _ (by omega)]
    simp only []
    rw [List.append_assoc, get_num2 _ _ (by omega) (by omega)]
    simp only [Int.toNat_natCast]
    rw [texts_app _ _ (fun s hs => by have := hn.2 s hs; omega)]
    simp only []
    rw [get_num6 _ _ (by omega) (by omega)]
    simp only []
    rw [tail]
/-! ### what Decode tells -/
def decP (l : List Int) : PE × Int × Int :=
  if l.length < 8 ∨ 4000 < l.length ∨ l.getD 0 0 ≠ 69 then (zP, 0, 10)
  else if l.getD 1 0 < 1 ∨ 3 < l.getD 1 0 then (zP, 0, 50)
  else if ((Rd.mk (l.drop 2) false).get 2).1 ≠ ((((Rd.mk (l.drop 2) false).get 2).2.get 4).2.b.length : Int) then (zP, 0, 10)
  else if (((Rd.mk (l.drop 2) false).get 2).2.get 4).1 ≠ sumP (((Rd.mk (l.drop 2) false).get 2).2.get 4).2.b then (zP, 0, 44)
  else if ((((Rd.mk (l.drop 2) false).get 2).2.get 4).2.entry (l.getD 1 0)).2.bad = true ∨ 0 < ((((Rd.mk (l.drop 2) false).get 2).2.get 4).2.entry (l.getD 1 0)).2.b.length then (zP, 0, 10)
  else if rightP ((((Rd.mk (l.drop 2) false).get 2).2.get 4).2.entry (l.getD 1 0)).1 = false then (zP, 0, 10)
  else (((((Rd.mk (l.drop 2) false).get 2).2.get 4).2.entry (l.getD 1 0)).1, l.getD 1 0, 0)
theorem bytes_rng2 {r : Rd} (h : ∀ x ∈ r.b, 0 ≤ x ∧ x < 256) (n : Nat) : ∀ x ∈ (r.bytes n).2.b, 0 ≤ x ∧ x < 256 := by
  unfold Rd.bytes
  split
  · exact h
  · exact fun x hx => h x (List.mem_of_mem_drop hx)
theorem get_rng2 {r : Rd} (h : ∀ x ∈ r.b, 0 ≤ x ∧ x < 256) (n : Nat) : ∀ x ∈ (r.get n).2.b, 0 ≤ x ∧ x < 256 := bytes_rng2 h n
theorem get2_lt {r : Rd} (h : ∀ x ∈ r.b, 0 ≤ x ∧ x < 256) : (r.get 2).1 < 65536 := by
  have h1 := big_bound _ (bytes_rng h 2)
  have h2 : (r.bytes 2).1.length ≤ 2 := by
    unfold Rd.bytes; split
    · simp
    · simp; omega
  have h3 : (256 : Int) ^ (r.bytes 2).1.length ≤ 65536 := by
    rcases (by omega : (r.bytes 2).1.length = 0 ∨ (r.bytes 2).1.length = 1 ∨ (r.bytes 2).1.length = 2) with e | e | e <;> rw [e] <;> decide
  show big (r.bytes 2).1 < 65536
  omega
theorem text_rng2 {r : Rd} (h : ∀ x ∈ r.b, 0 ≤ x ∧ x < 256) : ∀ x ∈ r.text.2.b, 0 ≤ x ∧ x < 256 := bytes_rng2 (get_rng2 h 2) _
theorem texts_bnd (n : Nat) : ∀ {r : Rd}, (∀ x ∈ r.b, 0 ≤ x ∧ x < 256) → (Rd.texts n r).1.length ≤ n ∧ (∀ s ∈ (Rd.texts n r).1, s.size < 65536) ∧ (∀ x ∈ (Rd.texts n r).2.b, 0 ≤ x ∧ x < 256) := by
  induction n with
  | zero => intro r h; exact ⟨Nat.le_refl _, (fun s hs => by cases hs), h⟩
  | succ n ih =>
    intro r h
    rw [Rd.texts]
    split
    · exact ⟨by simp, (fun s hs => by cases hs), h⟩
    · have h1 := ih (text_rng2 h)
      refine ⟨by simp; exact h1.1, fun s hs => ?_, h1.2.2⟩
      rcases List.mem_cons.1 hs with rfl | hs
      · exact text_size h
      · exact h1.2.1 s hs
theorem fields_bnd (n : Nat) : ∀ {r : Rd}, (∀ x ∈ r.b, 0 ≤ x ∧ x < 256) → (Rd.fields n r).1.length ≤ n ∧ (∀ p ∈ (Rd.fields n r).1, p.1.size < 65536 ∧ p.2.size < 65536) ∧ (∀ x ∈ (Rd.fields n r).2.b, 0 ≤ x ∧ x < 256) := by
  induction n with
  | zero => intro r h; exact ⟨Nat.le_refl _, (fun s hs => by cases hs), h⟩
  | succ n ih =>
    intro r h
    rw [Rd.fields]
    split
    · exact ⟨by simp, (fun s hs => by cases hs), h⟩
    · have h1 := ih (r := r.field.2) (text_rng2 (text_rng2 h))
      refine ⟨by simp; exact h1.1, fun s hs => ?_, h1.2.2⟩
      rcases List.mem_cons.1 hs with rfl | hs
      · exact ⟨text_size h, text_size (text_rng2 h)⟩
      · exact h1.2.1 s hs
theorem entry_bnd {r : Rd} (h : ∀ x ∈ r.b, 0 ≤ x ∧ x < 256) (v : Int) : Bnd (r.entry v).1 := by
  unfold Rd.entry
  dsimp only
  have r1 : ∀ x ∈ (r.secondOf v).2.b, 0 ≤ x ∧ x < 256 := by
    unfold Rd.secondOf; split
    · exact text_rng2 h
    · exact h
  have s1 : (r.secondOf v).1.size < 65536 := by
    unfold Rd.secondOf; split
    · exact text_size h
    · show (⟨#[]⟩ : ByteArray).size < 65536
      decide
  generalize r.secondOf v = s at *
  have n1 : (s.2.namesOf v).1.length ≤ 65536 ∧ (∀ t ∈ (s.2.namesOf v).1, t.size < 65536) ∧ (∀ x ∈ (s.2.namesOf v).2.b, 0 ≤ x ∧ x < 256) := by
    unfold Rd.namesOf; split
    · have := get2_lt r1
      have h2 := texts_bnd (s.2.get 2).1.toNat (get_rng2 r1 2)
      exact ⟨by omega, h2.2⟩
    · exact ⟨by simp, (fun t ht => by cases ht), r1⟩
  generalize s.2.namesOf v = n at *
  have g1 : ∀ x ∈ (n.2.genOf v).2.b, 0 ≤ x ∧ x < 256 := by
    unfold Rd.genOf; split
    · exact get_rng2 n1.2.2 6
    · exact n1.2.2
  generalize n.2.genOf v = g at *
  have k1 := text_size g1
  have k2 := text_rng2 g1
  have a2 := get_rng2 (get_rng2 (get_rng2 k2 6) 6) 6
  generalize (((g.2.text.2.get 6).2.get 6).2.get 6).2 = t at *
  have f0 := get2_lt a2
  have f1 := fields_bnd (t.get 2).1.toNat (get_rng2 a2 2)
  have f1 : (t.fieldsOf).1.length ≤ (t.get 2).1.toNat ∧ (∀ p ∈ t.fieldsOf.1, p.1.size < 65536 ∧ p.2.size < 65536) ∧ (∀ x ∈ t.fieldsOf.2.b, 0 ≤ x ∧ x < 256) := f1
  have b1 := text_size f1.2.2
  exact ⟨by dsimp only; omega, by dsimp only; omega, by dsimp only; omega, fun p hp => by have := n1.2.1 p hp; omega, by dsimp only; omega, fun p hp => by have := f1.2.1 p hp; omega, by rw [bytesOf_length]; omega, bytesOf_rng _⟩
theorem dec_ev (l : List Int) (h : ∀ x ∈ l, 0 ≤ x ∧ x < 256) : Ev (fun k => decO k l) (decP l) := by
  unfold decO decP
  have hd : ∀ x ∈ (Rd.mk (l.drop 2) false).b, 0 ≤ x ∧ x < 256 := fun x hx => h x (List.mem_of_mem_drop hx)
  have hg := get_rng2 (get_rng2 hd 2) 4
  generalize hL : (((Rd.mk (l.drop 2) false).get 2).2.get 4).2 = rd at *
  by_cases c1 : l.length < 8 ∨ 4000 < l.length ∨ l.getD 0 0 ≠ 69
  · rw [if_pos c1]; exact ev_now fun k => by rw [if_pos c1]
  · rw [if_neg c1]
    by_cases c2 : l.getD 1 0 < 1 ∨ 3 < l.getD 1 0
    · rw [if_pos c2]; exact ev_now fun k => by rw [if_neg c1, if_pos c2]
    · rw [if_neg c2]
      by_cases c3 : ((Rd.mk (l.drop 2) false).get 2).1 ≠ (rd.b.length : Int)
      · rw [if_pos c3]; exact ev_now fun k => by rw [if_neg c1, if_neg c2, if_pos c3]
      · rw [if_neg c3]
        have hlen : rd.b.length ≤ 70000 := by
          have := get2_lt hd
          have c3 := Classical.not_not.1 c3
          omega
        have hs := sum_ev rd.b (by omega) hg
        refine ev_eq (fun k => (entry_sum.f k rd.b).bind _) (ev_bind hs ?_) fun k => by rw [if_neg c1, if_neg c2, if_neg c3]
        by_cases c4 : (((Rd.mk (l.drop 2) false).get 2).2.get 4).1 ≠ sumP rd.b
        · rw [if_pos c4]; exact ev_now fun k => by rw [if_pos c4]
        · rw [if_neg c4]
          by_cases c5 : (rd.entry (l.getD 1 0)).2.bad = true ∨ 0 < (rd.entry (l.getD 1 0)).2.b.length
          · rw [if_pos c5]; exact ev_now fun k => by rw [if_neg c4, if_pos c5]
          · rw [if_neg c5]
            have hr := right_ev (rd.entry (l.getD 1 0)).1 (entry_bnd hg _)
            refine ev_eq _ (ev_bind (f := fun _ ok => if ok = false then some (zP, (0 : Int), (10 : Int)) else some ((rd.entry (l.getD 1 0)).1, l.getD 1 0, 0)) hr (ev_now fun k => ?_)) fun k => by rw [if_neg c4, if_neg c5]
            split
            · rfl
            · rfl
/-- What was written is read. -/
theorem dec_enc (x : PE) (v : Int) (h : fitsP x v = true) (hbd : ∀ c ∈ x.body, 0 ≤ c ∧ c < 256) (hl : (restP v x).length ≤ 3992) : decP (recOf v (restP v x)) = (x, v, 0) := by
  obtain ⟨hr, hv, -, -⟩ := fitsP_right h
  have hs := sumP_rng (restP v x)
  have e := entry_rest x v h hbd
  have hd : (recOf v (restP v x)).drop 2 = numP 2 ((restP v x).length : Int) ++ (numP 4 (sumP (restP v x)) ++ restP v x) := by
    unfold recOf; simp [List.append_assoc]
  have h0 : (recOf v (restP v x)).getD 0 0 = 69 := by unfold recOf; simp
  have h1 : (recOf v (restP v x)).getD 1 0 = v := by unfold recOf; simp; omega
  have hlen : (recOf v (restP v x)).length = 8 + (restP v x).length := by unfold recOf; simp only [List.length_append, numP_length, List.length_cons, List.length_nil]; try omega
  have g1 : (Rd.mk ((recOf v (restP v x)).drop 2) false).get 2 = (((restP v x).length : Int), ⟨numP 4 (sumP (restP v x)) ++ restP v x, false⟩) := by rw [hd, get_num2 _ _ (by omega) (by omega)]
  unfold decP
  rw [h0, h1, g1]
  simp only []
  rw [get_num4 _ _ hs.1 hs.2]
  simp only []
  rw [e, hr, hlen]
  rw [if_neg (by omega), if_neg (by omega), if_neg (by simp), if_neg (by simp), if_neg (by simp), if_neg (by simp)]
theorem list_four (l : List Int) (h : l.length = 4) : ∃ a b c d, l = [a, b, c, d] := by
  match l, h with
  | [a, b, c, d], _ => exact ⟨a, b, c, d, rfl⟩
end Go.Proofs.YtllnleokjcimhaaDoor.Pure
/-
The plain law, part 5: entries that are the same, small ones, records that are spoilt.
-/
namespace Go.Proofs.YtllnleokjcimhaaDoor.Pure
open Go.RowKit Go.Proofs.YtllnleokjcimhaaDoor.P Go.Proofs.YtllnleokjcimhaaDoor.En Go.Proofs.YtllnleokjcimhaaDoorW.PrintWords Go.Proofs.YtllnleokjcimhaaDoorW.PrintLast Go.Proofs.YtllnleokjcimhaaDoorW.PrintMore
set_option linter.unusedVariables false
set_option linter.unusedSimpArgs false
/-! ### the same -/
theorem tl_eq (s t : ByteArray) : (s.toList = t.toList) = (s = t) := by
  rw [tl, tl]
  exact propext ⟨fun h => ba_ext h, fun h => by rw [h]⟩
theorem tl_beq (s t : ByteArray) : (s.toList == t.toList) = decide (s = t) := by
  by_cases h : s = t
  · rw [h]; simp
  · rw [decide_eq_false h]
    have : ¬ s.toList = t.toList := by rw [tl_eq]; exact h
    simpa using this
theorem sset_ev (l m : List ByteArray) (hl : l.length ≤ 1000000) : Ev (fun k => slices_Equal_string_string.f k l m) (decide (l = m)) := by
  have loop : ∀ n j : Nat, j + n = l.length → l.length = m.length → Ev (fun k => slices_Equal_string_string.l0 k l m (l.length : Int) (j : Int)) (decide (l.drop j = m.drop j)) := by
    intro n
    induction n with
    | zero =>
      intro j hj hm
      refine ev_one fun k => ?_
      show slices_Equal_string_string.l0 (k + 1) l m _ _ = _
      rw [slices_Equal_string_string.l0, if_neg (by omega), List.drop_of_length_le (by omega), List.drop_of_length_le (by omega)]; rfl
    | succ n ih =>
      intro j hj hm
      have h1 : j < l.length := by omega
      have h2 : j < m.length := by omega
      have e1 : rdOf ByteArray.empty l (j : Int) = l[j] := by unfold rdOf; rw [Int.toNat_natCast, List.getD_eq_getElem?_getD, List.getElem?_eq_getElem h1]; rfl
      have e2 : rdOf ByteArray.empty m (j : Int) = m[j] := by unfold rdOf; rw [Int.toNat_natCast, List.getD_eq_getElem?_getD, List.getElem?_eq_getElem h2]; rfl
      by_cases c : l[j] = m[j]
      · refine ev_rw (ev_to _ (ih (j + 1) (by omega) hm) fun k => ?_) ?_
        · show slices_Equal_string_string.l0 (k + 1) l m _ _ = _
          rw [slices_Equal_string_string.l0, if_pos (by omega), if_pos (by omega), if_pos (by omega), if_pos (by omega), e1, e2, if_pos (by rw [c]), wrap_id (by omega) (by omega)]; rfl
        · rw [List.drop_eq_getElem_cons h1, List.drop_eq_getElem_cons h2]
          exact decide_eq_decide.2 ⟨fun h => by rw [c, h], fun h => (List.cons.inj h).2⟩
      · refine ev_one fun k => ?_
        show slices_Equal_string_string.l0 (k + 1) l m _ _ = _
        rw [slices_Equal_string_string.l0, if_pos (by omega), if_pos (by omega), if_pos (by omega), if_pos (by omega), e1, e2, if_neg (by rw [tl_eq]; exact c), List.drop_eq_getElem_cons h1, List.drop_eq_getElem_cons h2]
        congr 1
        exact (decide_eq_false fun h => c (List.cons.inj h).1).symm
  by_cases c : l.length = m.length
  · refine ev_eq _ (loop l.length 0 (by omega) c) fun k => ?_
    show slices_Equal_string_string.f k l m = _
    rw [slices_Equal_string_string.f, if_pos (by omega)]; rfl
  · refine ev_now fun k => ?_
    rw [slices_Equal_string_string.f, if_neg (by omega)]
    congr 1
    exact (decide_eq_false fun h => c (by rw [h])).symm
theorem bset_ev (l m : List Int) (hl : l.length ≤ 1000000) : Ev (fun k => slices_Equal_byte_byte.f k l m) (decide (l = m)) := by
  have loop : ∀ n j : Nat, j + n = l.length → l.length = m.length → Ev (fun k => slices_Equal_byte_byte.l0 k l m (l.length : Int) (j : Int)) (decide (l.drop j = m.drop j)) := by
    intro n
    induction n with
    | zero =>
      intro j hj hm
      refine ev_one fun k => ?_
      show slices_Equal_byte_byte.l0 (k + 1) l m _ _ = _
      rw [slices_Equal_byte_byte.l0, if_neg (by omega), List.drop_of_length_le (by omega), List.drop_of_length_le (by omega)]; rfl
    | succ n ih =>
      intro j hj hm
      have h1 : j < l.length := by omega
      have h2 : j < m.length := by omega
      have e1 := rd_at l j h1
      have e2 := rd_at m j h2
      by_cases c : l[j] = m[j]
      · refine ev_rw (ev_to _ (ih (j + 1) (by omega) hm) fun k => ?_) ?_
        · show slices_Equal_byte_byte.l0 (k + 1) l m _ _ = _
          rw [slices_Equal_byte_byte.l0, if_pos (by omega), if_pos (by omega), if_pos (by omega), if_pos (by omega), e1, e2, if_pos (by rw [c]), wrap_id (by omega) (by omega)]; rfl
        · rw [List.drop_eq_getElem_cons h1, List.drop_eq_getElem_cons h2]
          exact decide_eq_decide.2 ⟨fun h => by rw [c, h], fun h => (List.cons.inj h).2⟩
      · refine ev_one fun k => ?_
        show slices_Equal_byte_byte.l0 (k + 1) l m _ _ = _
        rw [slices_Equal_byte_byte.l0, if_pos (by omega), if_pos (by omega), if_pos (by omega), if_pos (by omega), e1, e2, if_neg c, List.drop_eq_getElem_cons h1, List.drop_eq_getElem_cons h2]
        congr 1
        exact (decide_eq_false fun h => c (List.cons.inj h).1).symm
  by_cases c : l.length = m.length
  · refine ev_eq _ (loop l.length 0 (by omega) c) fun k => ?_
    show slices_Equal_byte_byte.f k l m = _
    rw [slices_Equal_byte_byte.f, if_pos (by omega)]; rfl
  · refine ev_now fun k => ?_
    rw [slices_Equal_byte_byte.f, if_neg (by omega)]
    congr 1
    exact (decide_eq_false fun h => c (by rw [h])).symm
theorem flds_at (l : List (ByteArray × ByteArray)) (j : Nat) (h : j < l.length) : rd_T53 (flds l) (j : Int) = ⟨l[j].1, l[j].2⟩ := by
  unfold rd_T53 flds
  rw [Int.toNat_natCast, List.getD_eq_getElem?_getD, List.getElem?_map, List.getElem?_eq_getElem h]; rfl
theorem rflds_at (l : List (ByteArray × ByteArray)) (j : Nat) (h : j < l.length) : rd_T75 (rflds l) (j : Int) = ⟨l[j].1, l[j].2⟩ := by
  unfold rd_T75 rflds
  rw [Int.toNat_natCast, List.getD_eq_getElem?_getD, List.getElem?_map, List.getElem?_eq_getElem h]; rfl
theorem pair_ne (p q : ByteArray × ByteArray) : ((!(p.1.toList == q.1.toList) || (!(p.2.toList == q.2.toList))) = true) = (p ≠ q) := by
  rw [tl_beq, tl_beq]
  obtain ⟨a, b⟩ := p
  obtain ⟨c, d⟩ := q
  by_cases h1 : a = c <;> by_cases h2 : b = d <;> simp [h1, h2]
theorem fset_ev (l m : List (ByteArray × ByteArray)) (hl : l.length ≤ 1000000) : Ev (fun k => field_Field_42.f k (flds l) (flds m)) (decide (l = m)) := by
  have el : (flds l).length = l.length := by simp [flds]
  have em : (flds m).length = m.length := by simp [flds]
  have loop : ∀ n j : Nat, j + n = l.length → l.length = m.length → Ev (fun k => field_Field_42.l0 k (flds l) (flds m) (l.length : Int) (j : Int)) (decide (l.drop j = m.drop j)) := by
    intro n
    induction n with
    | zero =>
      intro j hj hm
      refine ev_one fun k => ?_
      show field_Field_42.l0 (k + 1) _ _ _ _ = _
      rw [field_Field_42.l0, if_neg (by omega), List.drop_of_length_le (by omega), List.drop_of_length_le (by omega)]; rfl
    | succ n ih =>
      intro j hj hm
      have h1 : j < l.length := by omega
      have h2 : j < m.length := by omega
      have e1 := flds_at l j h1
      have e2 := flds_at m j h2
      by_cases c : l[j] = m[j]
      · refine ev_rw (ev_to _ (ih (j + 1) (by omega) hm) fun k => ?_) ?_
        · show field_Field_42.l0 (k + 1) _ _ _ _ = _
          rw [field_Field_42.l0, if_pos (by omega), if_pos (by omega), if_pos (by omega), if_pos (by omega), e1, e2, if_neg (by rw [pair_ne]; exact fun h => h c), wrap_id (by omega) (by omega)]; rfl
        · rw [List.drop_eq_getElem_cons h1, List.drop_eq_getElem_cons h2]
          exact decide_eq_decide.2 ⟨fun h => by rw [c, h], fun h => (List.cons.inj h).2⟩
      · refine ev_one fun k => ?_
        show field_Field_42.l0 (k + 1) _ _ _ _ = _
        rw [field_Field_42.l0, if_pos (by omega), if_pos (by omega), if_pos (by omega), if_pos (by omega), e1, e2, if_pos (by rw [pair_ne]; exact c), List.drop_eq_getElem_cons h1, List.drop_eq_getElem_cons h2]
        congr 1
        exact (decide_eq_false fun h => c (List.cons.inj h).1).symm
  by_cases c : l.length = m.length
  · refine ev_eq _ (loop l.length 0 (by omega) c) fun k => ?_
    show field_Field_42.f k _ _ = _
    rw [field_Field_42.f, if_pos (by omega), el]; rfl
  · refine ev_now fun k => ?_
    rw [field_Field_42.f, if_neg (by omega)]
    congr 1
    exact (decide_eq_false fun h => c (by rw [h])).symm
theorem rfset_ev (l m : List (ByteArray × ByteArray)) (hl : l.length ≤ 1000000) : Ev (fun k => pantryref03_Same.f k (rflds l) (rflds m)) (decide (l = m)) := by
  have el : (rflds l).length = l.length := by simp [rflds]
  have em : (rflds m).length = m.length := by simp [rflds]
  have loop : ∀ n j : Nat, j + n = l.length → l.length = m.length → Ev (fun k => pantryref03_Same.l0 k (rflds l) (rflds m) (j : Int)) (decide (l.drop j = m.drop j)) := by
    intro n
    induction n with
    | zero =>
      intro j hj hm
      refine ev_one fun k => ?_
      show pantryref03_Same.l0 (k + 1) _ _ _ = _
      rw [pantryref03_Same.l0, if_neg (by omega), List.drop_of_length_le (by omega), List.drop_of_length_le (by omega)]; rfl
    | succ n ih =>
      intro j hj hm
      have h1 : j < l.length := by omega
      have h2 : j < m.length := by omega
      have e1 := rflds_at l j h1
      have e2 := rflds_at m j h2
      by_cases c : l[j] = m[j]
      · refine ev_rw (ev_to _ (ih (j + 1) (by omega) hm) fun k => ?_) ?_
        · show pantryref03_Same.l0 (k + 1) _ _ _ = _
          rw [pantryref03_Same.l0, if_pos (by omega), if_pos (by omega), if_pos (by omega), e1, e2, if_neg (by rw [pair_ne]; exact fun h => h c), wrap_id (by omega) (by omega)]; rfl
        · rw [List.drop_eq_getElem_cons h1, List.drop_eq_getElem_cons h2]
          exact decide_eq_decide.2 ⟨fun h => by rw [c, h], fun h => (List.cons.inj h).2⟩
      · refine ev_one fun k => ?_
        show pantryref03_Same.l0 (k + 1) _ _ _ = _
        rw [pantryref03_Same.l0, if_pos (by omega), if_pos (by omega), if_pos (by omega), e1, e2, if_pos (by rw [pair_ne]; exact c), List.drop_eq_getElem_cons h1, List.drop_eq_getElem_cons h2]
        congr 1
        exact (decide_eq_false fun h => c (List.cons.inj h).1).symm
  by_cases c : l.length = m.length
  · refine ev_eq _ (loop l.length 0 (by omega) c) fun k => ?_
    show pantryref03_Same.f k _ _ = _
    rw [pantryref03_Same.f, if_pos (by omega)]; rfl
  · refine ev_now fun k => ?_
    rw [pantryref03_Same.f, if_neg (by omega)]
    congr 1
    exact (decide_eq_false fun h => c (by rw [h])).symm
theorem PE_ext {x y : PE} (h1 : x.key = y.key) (h2 : x.second = y.second) (h3 : x.names = y.names) (h4 : x.asked = y.asked) (h5 : x.came = y.came) (h6 : x.status = y.status) (h7 : x.fields = y.fields) (h8 : x.body = y.body) (h9 : x.gen = y.gen) : x = y := by
  cases x; cases y; simp_all
open Classical in
noncomputable def sameP (x y : PE) : Bool := decide (x = y)
theorem sameP_true {x y : PE} : sameP x y = true ↔ x = y := by simp [sameP]
theorem sameP_self (x : PE) : sameP x x = true := sameP_true.2 rfl
theorem sameP_no {x y : PE} (h : x ≠ y) : sameP x y = false := by simp [sameP, h]
theorem same_ev (x y : PE) (hx : Bnd x) : Ev (fun k => entry_Same.f k x.key x.second x.names x.asked x.came x.status (flds x.fields) x.body x.gen y.key y.second y.names y.asked y.came y.status (flds y.fields) y.body y.gen) (sameP x y) := by
  obtain ⟨K1, h1⟩ := sset_ev x.names y.names (by have := hx.names; omega)
  obtain ⟨K2, h2⟩ := fset_ev x.fields y.fields (by have := hx.fields; omega)
  obtain ⟨K3, h3⟩ := bset_ev x.body y.body (by have := hx.body; omega)
  refine ⟨K1 + K2 + K3, fun k hk => ?_⟩
  have h1 : slices_Equal_string_string.f k x.names y.names = _ := h1 k (by omega)
  have h2 : field_Field_42.f k (flds x.fields) (flds y.fields) = _ := h2 k (by omega)
  have h3 : slices_Equal_byte_byte.f k x.body y.body = _ := h3 k (by omega)
  show entry_Same.f k _ _ _ _ _ _ _ _ _ _ _ _ _ _ _ _ _ _ = _
  unfold entry_Same.f
  rw [h1, h2, h3]
  simp only [tl_eq, Option.bind_some, decide_eq_true_eq]
  by_cases c1 : x.key = y.key
  · by_cases c2 : x.second = y.second
    · by_cases c3 : x.names = y.names
      · by_cases c4 : x.asked = y.asked
        · by_cases c5 : x.came = y.came
          · by_cases c6 : x.status = y.status
            · by_cases c7 : x.fields = y.fields
              · by_cases c8 : x.body = y.body
                · rw [if_pos c1, if_pos c2, if_pos c3, if_pos c4, if_pos c5, if_pos c6, if_pos c7, if_pos c8]
                  congr 1
                  by_cases c9 : x.gen = y.gen
                  · rw [PE_ext c1 c2 c3 c4 c5 c6 c7 c8 c9, sameP_self]; simp
                  · rw [sameP_no (fun h => c9 (by rw [h]))]; simpa using c9
                · rw [if_pos c1, if_pos c2, if_pos c3, if_pos c4, if_pos c5, if_pos c6, if_pos c7, if_neg c8, sameP_no (fun h => c8 (by rw [h]))]
              · rw [if_pos c1, if_pos c2, if_pos c3, if_pos c4, if_pos c5, if_pos c6, if_neg c7, sameP_no (fun h => c7 (by rw [h]))]
            · rw [if_pos c1, if_pos c2, if_pos c3, if_pos c4, if_pos c5, if_neg c6, sameP_no (fun h => c6 (by rw [h]))]
          · rw [if_pos c1, if_pos c2, if_pos c3, if_pos c4, if_neg c5, sameP_no (fun h => c5 (by rw [h]))]
        · rw [if_pos c1, if_pos c2, if_pos c3, if_neg c4, sameP_no (fun h => c4 (by rw [h]))]
      · rw [if_pos c1, if_pos c2, if_neg c3, sameP_no (fun h => c3 (by rw [h]))]
    · rw [if_pos c1, if_neg c2, sameP_no (fun h => c2 (by rw [h]))]
  · rw [if_neg c1, sameP_no (fun h => c1 (by rw [h]))]
theorem rsame_l (x y : PE) (hx : Bnd x) (hn : x.names.length = y.names.length) (n : Nat) : ∀ j : Nat, j + n = x.names.length → Ev (fun k => pantryref14_Same.l0 k (j : Int) x.key x.second x.names x.asked x.came x.status (rflds x.fields) x.body x.gen y.key y.second y.names y.asked y.came y.status (rflds y.fields) y.body y.gen) (decide (x.names.drop j = y.names.drop j) && decide (x.fields = y.fields)) := by
  have hxn := hx.names
  induction n with
  | zero =>
    intro j hj
    refine ev_rw (ev_to _ (rfset_ev x.fields y.fields (by have := hx.fields; omega)) fun k => ?_) ?_
    · show pantryref14_Same.l0 (k + 1) _ _ _ _ _ _ _ _ _ _ _ _ _ _ _ _ _ _ _ = _
      rw [pantryref14_Same.l0, if_neg (by omega)]
      generalize pantryref03_Same.f k (rflds x.fields) (rflds y.fields) = o
      cases o <;> rfl
    · rw [List.drop_of_length_le (by omega), List.drop_of_length_le (by omega)]; simp
  | succ n ih =>
    intro j hj
    have h1 : j < x.names.length := by omega
    have h2 : j < y.names.length := by omega
    have e1 : rdOf ByteArray.empty x.names (j : Int) = x.names[j] := by unfold rdOf; rw [Int.toNat_natCast, List.getD_eq_getElem?_getD, List.getElem?_eq_getElem h1]; rfl
    have e2 : rdOf ByteArray.empty y.names (j : Int) = y.names[j] := by unfold rdOf; rw [Int.toNat_natCast, List.getD_eq_getElem?_getD, List.getElem?_eq_getElem h2]; rfl
    by_cases c : x.names[j] = y.names[j]
    · refine ev_rw (ev_to _ (ih (j + 1) (by omega)) fun k => ?_) ?_
      · show pantryref14_Same.l0 (k + 1) _ _ _ _ _ _ _ _ _ _ _ _ _ _ _ _ _ _ _ = _
        rw [pantryref14_Same.l0, if_pos (by omega), if_pos (by omega), if_pos (by omega), e1, e2, if_pos (by rw [c]), wrap_id (by omega) (by omega)]; rfl
      · rw [List.drop_eq_getElem_cons h1, List.drop_eq_getElem_cons h2]
        congr 1
        exact decide_eq_decide.2 ⟨fun h => by rw [c, h], fun h => (List.cons.inj h).2⟩
    · refine ev_one fun k => ?_
      show pantryref14_Same.l0 (k + 1) _ _ _ _ _ _ _ _ _ _ _ _ _ _ _ _ _ _ _ = _
      rw [pantryref14_Same.l0, if_pos (by omega), if_pos (by omega), if_pos (by omega), e1, e2, if_neg (by rw [tl_eq]; exact c), List.drop_eq_getElem_cons h1, List.drop_eq_getElem_cons h2]
      rw [decide_eq_false fun h => c (List.cons.inj h).1]; rfl
theorem rsame_j (x y : PE) (hx : Bnd x) (bad : Bool) (hn : bad = false → x.names.length = y.names.length) : Ev (fun k => pantryref14_Same.j0 k bad x.key x.second x.names x.asked x.came x.status (rflds x.fields) x.body x.gen y.key y.second y.names y.asked y.came y.status (rflds y.fields) y.body y.gen) (!bad && (decide (x.names = y.names) && decide (x.fields = y.fields))) := by
  cases bad with
  | true =>
    refine ev_one fun k => ?_
    show pantryref14_Same.j0 (k + 1) _ _ _ _ _ _ _ _ _ _ _ _ _ _ _ _ _ _ _ = _
    rw [pantryref14_Same.j0, if_pos rfl]; rfl
  | false =>
    refine ev_rw (ev_to _ (rsame_l x y hx (hn rfl) x.names.length 0 (by omega)) fun k => ?_) ?_
    · show pantryref14_Same.j0 (k + 1) _ _ _ _ _ _ _ _ _ _ _ _ _ _ _ _ _ _ _ = _
      rw [pantryref14_Same.j0, if_neg (by decide)]; rfl
    · simp
theorem strOf_inj (l m : List Int) (hl : ∀ c ∈ l, 0 ≤ c ∧ c < 256) (hm : ∀ c ∈ m, 0 ≤ c ∧ c < 256) : (strOfNums l = strOfNums m) = (l = m) := propext ⟨fun h => by rw [← bytes_strOf l hl, ← bytes_strOf m hm, h], fun h => by rw [h]⟩
theorem rsame_ev (x y : PE) (hx : Bnd x) (hy : Bnd y) : Ev (fun k => pantryref14_Same.f k x.key x.second x.names x.asked x.came x.status (rflds x.fields) x.body x.gen y.key y.second y.names y.asked y.came y.status (rflds y.fields) y.body y.gen) (sameP x y) := by
  have T := rsame_j x y hx true (fun h => by cases h)
  have no : ∀ (f : Nat → Option Bool), (∀ k, f k = pantryref14_Same.j0 k true x.key x.second x.names x.asked x.came x.status (rflds x.fields) x.body x.gen y.key y.second y.names y.asked y.came y.status (rflds y.fields) y.body y.gen) → x ≠ y → Ev f (sameP x y) := fun f hf hne => by
    rw [sameP_no hne]; exact ev_rw (ev_eq _ T hf) rfl
  unfold pantryref14_Same.f
  simp only [tl_eq, strOf_inj x.body y.body hx.bytes hy.bytes]
  by_cases c1 : x.key = y.key
  · by_cases c2 : x.second = y.second
    · by_cases c3 : (x.names.length : Int) = (y.names.length : Int)
      · by_cases c4 : x.asked = y.asked
        · by_cases c5 : x.came = y.came
          · by_cases c6 : x.status = y.status
            · by_cases c7 : x.body = y.body
              · have J := rsame_j x y hx (x.gen != y.gen) (fun _ => by omega)
                refine ev_rw (ev_eq _ J fun k => by rw [if_pos c1, if_pos c2, if_pos c3, if_pos c4, if_pos c5, if_pos c6, if_pos c7]) ?_
                by_cases c8 : x.gen = y.gen
                · by_cases c9 : x.names = y.names
                  · by_cases c10 : x.fields = y.fields
                    · rw [sameP_true.2 (PE_ext c1 c2 c9 c4 c5 c6 c10 c7 c8)]; simp [c8, c9, c10]
                    · rw [sameP_no (fun h => c10 (by rw [h]))]; simp [c10]
                  · rw [sameP_no (fun h => c9 (by rw [h]))]; simp [c9]
                · rw [sameP_no (fun h => c8 (by rw [h]))]; simp [c8]
              · exact no _ (fun k => by rw [if_pos c1, if_pos c2, if_pos c3, if_pos c4, if_pos c5, if_pos c6, if_neg c7]) (fun h => c7 (by rw [h]))
            · exact no _ (fun k => by rw [if_pos c1, if_pos c2, if_pos c3, if_pos c4, if_pos c5, if_neg c6]) (fun h => c6 (by rw [h]))
          · exact no _ (fun k => by rw [if_pos c1, if_pos c2, if_pos c3, if_pos c4, if_neg c5]) (fun h => c5 (by rw [h]))
        · exact no _ (fun k => by rw [if_pos c1, if_pos c2, if_pos c3, if_neg c4]) (fun h => c4 (by rw [h]))
      · exact no _ (fun k => by rw [if_pos c1, if_pos c2, if_neg c3]) (fun h => c3 (by rw [h]))
    · exact no _ (fun k => by rw [if_pos c1, if_neg c2]) (fun h => c2 (by rw [h]))
  · exact no _ (fun k => by rw [if_neg c1]) (fun h => c1 (by rw [h]))
/-! ### small entries -/
def smallP (x : PE) : Bool := x.fields.all (fun p => decide (p.1.size ≤ 200 ∧ p.2.size ≤ 1100)) && (x.names.all (fun s => decide (s.size ≤ 100)) && decide (x.key.size ≤ 1300 ∧ x.second.size ≤ 700 ∧ x.names.length ≤ 20 ∧ x.fields.length ≤ 70 ∧ x.body.length ≤ 2100))
theorem small_l1 (x : PE) (hn : x.names.length ≤ 9223372036854775807) (n : Nat) : ∀ j : Nat, j + n = x.names.length → Ev (fun k => pantrymade_SmallEntry.l1 k x.names (x.names.length : Int) (j : Int) x.key x.second x.names x.asked x.came x.status (flds x.fields) x.body x.gen) ((x.names.drop j).all (fun s => decide (s.size ≤ 100)) && decide (x.key.size ≤ 1300 ∧ x.second.size ≤ 700 ∧ x.names.length ≤ 20 ∧ x.fields.length ≤ 70 ∧ x.body.length ≤ 2100)) := by
  have el : (flds x.fields).length = x.fields.length := by simp [flds]
  induction n with
  | zero =>
    intro j hj
    refine ev_one fun k => ?_
    show pantrymade_SmallEntry.l1 (k + 1) _ _ _ _ _ _ _ _ _ _ _ _ = _
    rw [pantrymade_SmallEntry.l1, if_neg (by omega), List.drop_of_length_le (by omega), el]
    by_cases a1 : x.key.size ≤ 1300
    · by_cases a2 : x.second.size ≤ 700
      · by_cases a3 : x.names.length ≤ 20
        · by_cases a4 : x.fields.length ≤ 70
          · rw [if_pos (by omega), if_pos (by omega), if_pos (by omega), if_pos (by omega)]
            congr 1
            simp only [List.all_nil, Bool.true_and]
            exact decide_eq_decide.2 (by omega)
          · rw [if_pos (by omega), if_pos (by omega), if_pos (by omega), if_neg (by omega)]; simp [a4]
        · rw [if_pos (by omega), if_pos (by omega), if_neg (by omega)]; simp [a3]
      · rw [if_pos (by omega), if_neg (by omega)]; simp [a2]
    · rw [if_neg (by omega)]; simp [a1]
  | succ n ih =>
    intro j hj
    have h1 : j < x.names.length := by omega
    have e1 : rdOf ByteArray.empty x.names (j : Int) = x.names[j] := by unfold rdOf; rw [Int.toNat_natCast, List.getD_eq_getElem?_getD, List.getElem?_eq_getElem h1]; rfl
    by_cases c : (x.names[j].size : Int) > 100
    · refine ev_one fun k => ?_
      show pantrymade_SmallEntry.l1 (k + 1) _ _ _ _ _ _ _ _ _ _ _ _ = _
      rw [pantrymade_SmallEntry.l1, if_pos (by omega), if_pos (by omega), if_pos (by omega), e1, if_pos c, List.drop_eq_getElem_cons h1, List.all_cons, decide_eq_false (by omega)]
      rfl
    · refine ev_rw (ev_to _ (ih (j + 1) (by omega)) fun k => ?_) ?_
      · show pantrymade_SmallEntry.l1 (k + 1) _ _ _ _ _ _ _ _ _ _ _ _ = _
        rw [pantrymade_SmallEntry.l1, if_pos (by omega), if_pos (by omega), if_pos (by omega), e1, if_neg c, wrap_id (by omega) (by omega)]; rfl
      · rw [List.drop_eq_getElem_cons h1, List.all_cons, decide_eq_true (show x.names[j].size ≤ 100 by omega)]; rfl
theorem small_l0 (x : PE) (hn : x.names.length ≤ 9223372036854775807) (hf : x.fields.length ≤ 9223372036854775807) (n : Nat) : ∀ j : Nat, j + n = x.fields.length → Ev (fun k => pantrymade_SmallEntry.l0 k (flds x.fields) (x.fields.length : Int) (j : Int) x.key x.second x.names x.asked x.came x.status (flds x.fields) x.body x.gen) ((x.fields.drop j).all (fun p => decide (p.1.size ≤ 200 ∧ p.2.size ≤ 1100)) && (x.names.all (fun s => decide (s.size ≤ 100)) && decide (x.key.size ≤ 1300 ∧ x.second.size ≤ 700 ∧ x.names.length ≤ 20 ∧ x.fields.length ≤ 70 ∧ x.body.length ≤ 2100))) := by
  have el : (flds x.fields).length = x.fields.length := by simp [flds]
  induction n with
  | zero =>
    intro j hj
    refine ev_rw (ev_to _ (small_l1 x hn x.names.length 0 (by omega)) fun k => ?_) ?_
    · show pantrymade_SmallEntry.l0 (k + 1) _ _ _ _ _ _ _ _ _ _ _ _ = _
      rw [pantrymade_SmallEntry.l0, if_neg (by omega)]; rfl
    · rw [List.drop_of_length_le (show x.fields.length ≤ j from by omega)]; rfl
  | succ n ih =>
    intro j hj
    have h1 : j < x.fields.length := by omega
    have e1 := flds_at x.fields j h1
    by_cases c : (x.fields[j].1.size : Int) > 200
    · refine ev_one fun k => ?_
      show pantrymade_SmallEntry.l0 (k + 1) _ _ _ _ _ _ _ _ _ _ _ _ = _
      rw [pantrymade_SmallEntry.l0, if_pos (by omega), if_pos (by omega), if_pos (by omega), e1]
      dsimp only
      rw [if_pos c, List.drop_eq_getElem_cons h1, List.all_cons, decide_eq_false (by omega)]
      rfl
    · by_cases c2 : (x.fields[j].2.size : Int) > 1100
      · refine ev_one fun k => ?_
        show pantrymade_SmallEntry.l0 (k + 1) _ _ _ _ _ _ _ _ _ _ _ _ = _
        rw [pantrymade_SmallEntry.l0, if_pos (by omega), if_pos (by omega), if_pos (by omega), e1]
        dsimp only
        rw [if_neg c, if_pos c2, List.drop_eq_getElem_cons h1, List.all_cons, decide_eq_false (by omega)]
        rfl
      · refine ev_rw (ev_to _ (ih (j + 1) (by omega)) fun k => ?_) ?_
        · show pantrymade_SmallEntry.l0 (k + 1) _ _ _ _ _ _ _ _ _ _ _ _ = _
          rw [pantrymade_SmallEntry.l0, if_pos (by omega), if_pos (by omega), if_pos (by omega), e1]
          dsimp only
          rw [if_neg c, if_neg c2, wrap_id (by omega) (by omega)]; rfl
        · rw [List.drop_eq_getElem_cons h1, List.all_cons, decide_eq_true (show x.fields[j].1.size ≤ 200 ∧ x.fields[j].2.size ≤ 1100 by omega)]; rfl
theorem small_ev (x : PE) (hn : x.names.length ≤ 9223372036854775807) (hf : x.fields.length ≤ 9223372036854775807) : Ev (fun k => pantrymade_SmallEntry.f k x.key x.second x.names x.asked x.came x.status (flds x.fields) x.body x.gen) (smallP x) := by
  have el : (flds x.fields).length = x.fields.length := by simp [flds]
  refine ev_eq _ (small_l0 x hn hf x.fields.length 0 (by omega)) fun k => ?_
  show pantrymade_SmallEntry.f k _ _ _ _ _ _ _ _ _ = _
  rw [pantrymade_SmallEntry.f, el]; rfl
theorem smallP_bnd {x : PE} (h : smallP x = true) (hb : ∀ c ∈ x.body, 0 ≤ c ∧ c < 256) : Bnd x := by
  unfold smallP at h
  simp only [Bool.and_eq_true, List.all_eq_true, decide_eq_true_eq] at h
  obtain ⟨h1, h2, h3⟩ := h
  exact ⟨by omega, by omega, by omega, fun s hs => by have := h2 s hs; omega, by omega, fun p hp => by have := h1 p hp; omega, by omega, hb⟩
/-! ### records that are spoilt -/
theorem dec_shape (v n : Int) (chk r : List Int) (hv : 1 ≤ v ∧ v ≤ 3) (hn : 0 ≤ n ∧ n < 65536) (hc : chk.length = 4) (hl : r.length ≤ 3992) :
    decP ([69, v % 256] ++ numP 2 n ++ chk ++ r) = if n ≠ (r.length : Int) then (zP, 0, 10) else if big chk ≠ sumP r then (zP, 0, 44)
      else if ((Rd.mk r false).entry v).2.bad = true ∨ 0 < ((Rd.mk r false).entry v).2.b.length then (zP, 0, 10) else if rightP ((Rd.mk r false).entry v).1 = false then (zP, 0, 10) else (((Rd.mk r false).entry v).1, v, 0) := by
  generalize hL : [69, v % 256] ++ numP 2 n ++ chk ++ r = L
  have hlen : L.length = 8 + r.length := by rw [← hL]; simp only [List.length_append, numP_length, List.length_cons, List.length_nil, hc]; try omega
  have h0 : L.getD 0 0 = 69 := by rw [← hL]; simp
  have h1 : L.getD 1 0 = v := by rw [← hL]; simp; omega
  have hd : L.drop 2 = numP 2 n ++ (chk ++ r) := by rw [← hL]; simp [List.append_assoc]
  have g1 : (Rd.mk (L.drop 2) false).get 2 = (n, ⟨chk ++ r, false⟩) := by rw [hd, get_num2 _ _ hn.1 hn.2]
  have g2 : (Rd.mk (chk ++ r) false).get 4 = (big chk, ⟨r, false⟩) := by unfold Rd.get; rw [bytes_app _ _ 4 hc]
  unfold decP
  rw [h0, h1, g1]
  simp only []
  rw [g2]
  simp only []
  rw [if_neg (by omega), if_neg (by omega)]
theorem recOf_len (v : Int) (r : List Int) : (recOf v r).length = 8 + r.length := by
  unfold recOf; simp only [List.length_append, numP_length, List.length_cons, List.length_nil]; try omega
/-- A byte of the rest that is turned is found. -/
theorem dec_turned (v : Int) (r : List Int) (hv : 1 ≤ v ∧ v ≤ 3) (hr : ∀ c ∈ r, 0 ≤ c ∧ c < 256) (hl : r.length ≤ 3992) (i : Nat) (h4 : 4 ≤ i) (hi : i < (recOf v r).length) (y : Int) (hy : 0 ≤ y ∧ y < 256) (hne : y ≠ (recOf v r)[i]) : decP ((recOf v r).set i y) = (zP, 0, 44) := by
  have hs := sumP_rng r
  rw [recOf_len] at hi
  have hA : ([69, v % 256] ++ numP 2 (r.length : Int)).length = 4 := by simp [numP_length]
  have hB : ([69, v % 256] ++ numP 2 (r.length : Int) ++ numP 4 (sumP r)).length = 8 := by simp [numP_length]
  by_cases c : i < 8
  · have e : (recOf v r).set i y = [69, v % 256] ++ numP 2 (r.length : Int) ++ (numP 4 (sumP r)).set (i - 4) y ++ r := by
      unfold recOf
      rw [List.set_append_left _ _ (by rw [hB]; omega), List.set_append_right _ _ (by rw [hA]; omega), hA]
    have e2 : (recOf v r)[i]'(by rw [recOf_len]; omega) = (numP 4 (sumP r))[i - 4]'(by rw [numP_length]; omega) := by
      unfold recOf
      rw [List.getElem_append_left (by rw [hB]; omega), List.getElem_append_right (by rw [hA]; omega)]
      simp only [hA]
    rw [e2] at hne
    rw [e, dec_shape v _ _ r hv ⟨by omega, by omega⟩ (by rw [List.length_set, numP_length]) hl, if_neg (by simp), if_pos]
    intro hb
    have hrng : ∀ c ∈ (numP 4 (sumP r)).set (i - 4) y, 0 ≤ c ∧ c < 256 := fun c hc => by
      rcases List.mem_or_eq_of_mem_set hc with h | h
      · exact numP_rng _ _ c h
      · rw [h]; exact hy
    obtain ⟨a, b, c', d, he⟩ := list_four ((numP 4 (sumP r)).set (i - 4) y) (by rw [List.length_set, numP_length])
    have h5 : numP 4 (big ((numP 4 (sumP r)).set (i - 4) y)) = (numP 4 (sumP r)).set (i - 4) y := by
      rw [he] at hrng ⊢
      exact numP4_big a b c' d (hrng a (by simp)) (hrng b (by simp)) (hrng c' (by simp)) (hrng d (by simp))
    rw [hb] at h5
    apply hne
    have h6 : (numP 4 (sumP r))[i - 4]'(by rw [numP_length]; omega) = ((numP 4 (sumP r)).set (i - 4) y)[i - 4]'(by rw [List.length_set, numP_length]; omega) := by
      congr 1
    rw [h6, List.getElem_set_self]
  · have e : (recOf v r).set i y = [69, v % 256] ++ numP 2 ((r.set (i - 8) y).length : Int) ++ numP 4 (sumP r) ++ r.set (i - 8) y := by
      unfold recOf
      rw [List.set_append_right _ _ (by rw [hB]; omega), hB, List.length_set]
    have e2 : (recOf v r)[i]'(by rw [recOf_len]; omega) = r[i - 8]'(by omega) := by
      unfold recOf
      rw [List.getElem_append_right (by rw [hB]; omega)]
      simp only [hB]
    rw [e2] at hne
    rw [e, dec_shape v _ _ _ hv ⟨by omega, by rw [List.length_set]; omega⟩ (numP_length _ _) (by rw [List.length_set]; exact hl), if_neg (by simp), big_numP4 _ hs.1 hs.2, if_pos]
    intro hb
    have hk : i - 8 < r.length := by omega
    have h1 : r = r.take (i - 8) ++ r[i - 8] :: r.drop (i - 8 + 1) := by rw [← List.drop_eq_getElem_cons hk, List.take_append_drop]
    have h2 : r.set (i - 8) y = r.take (i - 8) ++ y :: r.drop (i - 8 + 1) := by rw [List.set_eq_take_append_cons_drop, if_pos hk]
    have h3 : sumP (r.take (i - 8) ++ r[i - 8] :: r.drop (i - 8 + 1)) = sumP (r.take (i - 8) ++ y :: r.drop (i - 8 + 1)) := by rw [← h1, ← h2]; exact hb
    exact hne (sumP_turned _ _ _ _ (fun c hc => hr c (List.mem_of_mem_take hc)) (fun c hc => hr c (List.mem_of_mem_drop hc)) (hr _ (List.getElem_mem hk)) hy h3).symm
end Go.Proofs.YtllnleokjcimhaaDoor.Pure
