import Derived.Test.YtllnleokjcimhaaDoorZEntryFitsPure
import Derived.Test.YtllnleokjcimhaaDoorZEntryFitsEnPlain
import Derived.Test.YtllnleokjcimhaaDoorZEntryFitsPx0
import Derived.Test.YtllnleokjcimhaaDoorZEntryFitsPx1
import Derived.Test.YtllnleokjcimhaaDoorZEntryFitsPx2
import Derived.Test.YtllnleokjcimhaaDoorZEntryFitsPx3
import Derived.Test.YtllnleokjcimhaaDoorZEntryFitsPx4
import Derived.Test.YtllnleokjcimhaaDoorZEntryFitsPx5
import Derived.Test.YtllnleokjcimhaaDoorZEntryFitsPx6
import Derived.Test.YtllnleokjcimhaaDoorZEntryFitsPx7
import Derived.Test.YtllnleokjcimhaaDoorZEntryFitsPx8
import Derived.Test.YtllnleokjcimhaaDoorZEntryFitsPx9
import Derived.Test.YtllnleokjcimhaaDoorZEntryFitsPx10
import Derived.Test.YtllnleokjcimhaaDoorZEntryFitsPx15
import Derived.Test.YtllnleokjcimhaaDoorZEntryFitsPx16
import Derived.Test.YtllnleokjcimhaaDoorZEntryFitsPx19
import Derived.Laws.BitsAllLaws
/-
The plain law, part 1: numbers, texts and sums as bytes. No program in sight but the printed functions.
-/
namespace Go.Proofs.YtllnleokjcimhaaDoor.Pure
open Go.RowKit Go.Proofs.YtllnleokjcimhaaDoor.P Go.Proofs.YtllnleokjcimhaaDoor.En Go.Proofs.YtllnleokjcimhaaDoorW.PrintWords Go.Proofs.YtllnleokjcimhaaDoorW.PrintLast Go.Proofs.YtllnleokjcimhaaDoorW.PrintMore
set_option linter.unusedVariables false
set_option linter.unusedSimpArgs false
/-- A number in so many bytes. -/
def numP : Nat → Int → List Int
  | 0, _ => []
  | s + 1, n => (n / 2 ^ (8 * s) % 256) :: numP s n
theorem numP_length (s : Nat) (n : Int) : (numP s n).length = s := by induction s with
  | zero => rfl
  | succ s ih => rw [numP, List.length_cons, ih]
theorem numP_rng (s : Nat) (n : Int) : ∀ x ∈ numP s n, 0 ≤ x ∧ x < 256 := by induction s with
  | zero => intro x hx; cases hx
  | succ s ih =>
    intro x hx
    rw [numP] at hx
    rcases List.mem_cons.1 hx with rfl | hx
    · omega
    · exact ih x hx
/-- Their number again. -/
theorem big_numP2 (n : Int) (h0 : 0 ≤ n) (h1 : n < 65536) : big (numP 2 n) = n := by
  simp only [numP, big, List.foldl]; omega
theorem big_numP4 (n : Int) (h0 : 0 ≤ n) (h1 : n < 4294967296) : big (numP 4 n) = n := by
  simp only [numP, big, List.foldl]; omega
theorem big_numP6 (n : Int) (h0 : 0 ≤ n) (h1 : n < 281474976710656) : big (numP 6 n) = n := by
  simp only [numP, big, List.foldl]; omega
theorem numP2_big (a b : Int) (ha : 0 ≤ a ∧ a < 256) (hb : 0 ≤ b ∧ b < 256) : numP 2 (big [a, b]) = [a, b] := by
  simp only [numP, big, List.foldl, List.cons.injEq, and_true]; omega
theorem numP4_big (a b c d : Int) (ha : 0 ≤ a ∧ a < 256) (hb : 0 ≤ b ∧ b < 256) (hc : 0 ≤ c ∧ c < 256) (hd : 0 ≤ d ∧ d < 256) : numP 4 (big [a, b, c, d]) = [a, b, c, d] := by
  simp only [numP, big, List.foldl, List.cons.injEq, and_true]; omega
theorem numP6_big (a b c d e f : Int) (ha : 0 ≤ a ∧ a < 256) (hb : 0 ≤ b ∧ b < 256) (hc : 0 ≤ c ∧ c < 256) (hd : 0 ≤ d ∧ d < 256) (he : 0 ≤ e ∧ e < 256) (hf : 0 ≤ f ∧ f < 256) : numP 6 (big [a, b, c, d, e, f]) = [a, b, c, d, e, f] := by
  simp only [numP, big, List.foldl, List.cons.injEq, and_true]; omega
theorem put_digits (n : Int) (s : Nat) (hs : s ≤ 6) (x1 : Int) (x10 : List Int) (x11 x12 : Int) (r : List Int) : ∀ x0 : List Int, x0.length + s < 70368744177664 → Ev (fun k => entry_put.l0 k (x0 ++ numP s n) x1 x10 x11 (wrap64 (x12 + 1))) r →
    Ev (fun k => entry_put.l1 k x0 x1 n (8 * (s : Int) - 8) x10 x11 x12) r := by
  induction s with
  | zero =>
    intro x0 hl h
    rw [numP, List.append_nil] at h
    refine ev_to _ h fun k => ?_
    show entry_put.l1 (k + 1) x0 x1 n _ x10 x11 x12 = _
    rw [entry_put.l1, if_neg (by omega)]
  | succ s ih =>
    intro x0 hl h
    refine ev_to _ (ih (by omega) (x0 ++ [n / 2 ^ (8 * s) % 256]) (by simp; omega) (by rw [List.append_assoc]; exact h)) fun k => ?_
    show entry_put.l1 (k + 1) x0 x1 n _ x10 x11 x12 = _
    rw [entry_put.l1, if_pos (by omega), if_pos (by omega), if_pos (by omega)]
    have e : (shr .i64 n (8 * ((s + 1 : Nat) : Int) - 8)) = n / 2 ^ (8 * s) := by
      unfold shr
      rw [show (8 * ((s + 1 : Nat) : Int) - 8).toNat = 8 * s from by omega, Nat.min_eq_left (by show 8 * s ≤ 64; omega)]
    rw [e, wrap_id (by omega) (by omega), show 8 * ((s + 1 : Nat) : Int) - 8 - 8 = 8 * (s : Int) - 8 from by omega]
def putP (s : Nat) (l : List Int) : List Int := l.flatMap (numP s)
theorem put_loop (s : Nat) (hs : s ≤ 6) (l : List Int) (hl : l.length ≤ 1000000) (m : Nat) : ∀ (j : Nat) (x0 : List Int), j + m = l.length → x0.length + m * s < 70368744177664 →
    Ev (fun k => entry_put.l0 k x0 (s : Int) l (l.length : Int) (j : Int)) (x0 ++ putP s (l.drop j)) := by
  induction m with
  | zero =>
    intro j x0 hj hx
    refine ev_one fun k => ?_
    show entry_put.l0 (k + 1) x0 (s : Int) l _ _ = _
    rw [entry_put.l0, if_neg (by omega), List.drop_of_length_le (by omega)]
    simp [putP]
  | succ m ih =>
    intro j x0 hj hx
    have hlt : j < l.length := by omega
    have h1 := ih (j + 1) (x0 ++ numP s l[j]) (by omega) (by rw [List.length_append, numP_length]; rw [Nat.add_mul] at hx; omega)
    rw [List.append_assoc, show numP s l[j] ++ putP s (l.drop (j + 1)) = putP s (l.drop j) from by rw [List.drop_eq_getElem_cons hlt]; rfl] at h1
    have h2 := put_digits l[j] s hs (s : Int) l (l.length : Int) (j : Int) _ x0 (by rw [Nat.add_mul] at hx; omega) (by
      rw [wrap_id (by omega) (by omega), show (j : Int) + 1 = ((j + 1 : Nat) : Int) from by omega]; exact h1)
    refine ev_to _ h2 fun k => ?_
    show entry_put.l0 (k + 1) x0 (s : Int) l _ _ = _
    have e : wrap64 (8 * wrap64 ((s : Int) - 1)) = 8 * (s : Int) - 8 := by
      rw [wrap_id (x := (s : Int) - 1) (by omega) (by omega), wrap_id (by omega) (by omega)]; omega
    have e2 : rd l (j : Int) = l[j] := by unfold rd; rw [Int.toNat_natCast, List.getD_eq_getElem?_getD, List.getElem?_eq_getElem hlt]; rfl
    rw [entry_put.l0, if_pos (by omega), if_pos (by omega), if_pos (by omega), e, e2]
theorem put_ev (s : Nat) (hs : s ≤ 6) (l : List Int) (hl : l.length ≤ 1000000) (x0 : List Int) (hx : x0.length + l.length * s < 70368744177664) : Ev (fun k => entry_put.f k x0 (s : Int) l) (x0 ++ putP s l) :=
  put_loop s hs l hl l.length 0 x0 (by omega) hx
/-- A text behind its length. -/
def textP (s : ByteArray) : List Int := numP 2 (s.size : Int) ++ bytesOf s
theorem textP_length (s : ByteArray) : (textP s).length = 2 + s.size := by rw [textP, List.length_append, numP_length, bytesOf_length]
def textsP (l : List ByteArray) : List Int := l.flatMap textP
theorem textsP_cons (s : ByteArray) (l : List ByteArray) : textsP (s :: l) = textP s ++ textsP l := List.flatMap_cons
theorem texts_loop (l : List ByteArray) (hl : l.length ≤ 1000000) (m : Nat) : ∀ (j : Nat) (x0 : List Int), j + m = l.length → x0.length + (textsP (l.drop j)).length < 70368744177664 →
    Ev (fun k => entry_texts.l0 k x0 l (l.length : Int) (j : Int)) (x0 ++ textsP (l.drop j)) := by
  induction m with
  | zero =>
    intro j x0 hj hx
    refine ev_one fun k => ?_
    show entry_texts.l0 (k + 1) x0 l _ _ = _
    rw [entry_texts.l0, if_neg (by omega), List.drop_of_length_le (by omega)]
    simp [textsP]
  | succ m ih =>
    intro j x0 hj hx
    have hlt : j < l.length := by omega
    rw [List.drop_eq_getElem_cons hlt, textsP_cons, List.length_append, textP_length] at hx
    have h1 := ih (j + 1) (x0 ++ textP l[j]) (by omega) (by rw [List.length_append, textP_length]; omega)
    rw [List.append_assoc, ← textsP_cons, ← List.drop_eq_getElem_cons hlt] at h1
    have e2 : rdOf ByteArray.empty l (j : Int) = l[j] := by unfold rdOf; rw [Int.toNat_natCast, List.getD_eq_getElem?_getD, List.getElem?_eq_getElem hlt]; rfl
    have h3 := put_ev 2 (by omega) [(l[j].size : Int)] (by simp) x0 (by simp; omega)
    have h4 : putP 2 [(l[j].size : Int)] = numP 2 (l[j].size : Int) := by simp [putP]
    rw [h4] at h3
    refine ev_to (fun k => (entry_put.f k x0 2 [(l[j].size : Int)]).bind fun t => if t.length + l[j].size < 140737488355328 then entry_texts.l0 k (t ++ bytesOf l[j]) l (l.length : Int) (wrap64 ((j : Int) + 1)) else none) (ev_bind h3 ?_) fun k => ?_
    · refine ev_eq _ h1 fun k => ?_
      rw [if_pos (by rw [List.length_append, numP_length]; omega), wrap_id (by omega) (by omega), List.append_assoc]
      rfl
    · show entry_texts.l0 (k + 1) x0 l _ _ = _
      rw [entry_texts.l0, if_pos (by omega), if_pos (by omega), if_pos (by omega), e2]
theorem texts_ev (l : List ByteArray) (hl : l.length ≤ 1000000) (x0 : List Int) (hx : x0.length + (textsP l).length < 70368744177664) : Ev (fun k => entry_texts.f k x0 l) (x0 ++ textsP l) :=
  texts_loop l hl l.length 0 x0 (by omega) hx
/-! ### sums -/
def stepP (n c : Int) : Int := ((n.toNat ^^^ c.toNat : Nat) : Int) * 16777619 % 4294967296
def sumP (l : List Int) : Int := l.foldl stepP 2166136261
theorem stepP_rng (n c : Int) : 0 ≤ stepP n c ∧ stepP n c < 4294967296 := by unfold stepP; omega
theorem fold_rng (l : List Int) : ∀ n : Int, 0 ≤ n ∧ n < 4294967296 → 0 ≤ l.foldl stepP n ∧ l.foldl stepP n < 4294967296 := by
  induction l with
  | nil => intro n h; exact h
  | cons c l ih => intro n h; exact ih _ (stepP_rng n c)
theorem sumP_rng (l : List Int) : 0 ≤ sumP l ∧ sumP l < 4294967296 := fold_rng l _ (by omega)
theorem rd_at (l : List Int) (j : Nat) (h : j < l.length) : rd l (j : Int) = l[j] := by unfold rd; rw [Int.toNat_natCast, List.getD_eq_getElem?_getD, List.getElem?_eq_getElem h]; rfl
theorem sum_loop (l : List Int) (hl : l.length ≤ 1000000000000) (hr : ∀ x ∈ l, 0 ≤ x ∧ x < 256) (m : Nat) : ∀ (j : Nat) (n : Int), j + m = l.length → 0 ≤ n ∧ n < 4294967296 →
    Ev (fun k => entry_sum.l0 k n l (l.length : Int) (j : Int)) ((l.drop j).foldl stepP n) := by
  induction m with
  | zero =>
    intro j n hj hn
    refine ev_one fun k => ?_
    show entry_sum.l0 (k + 1) n l _ _ = _
    rw [entry_sum.l0, if_neg (by omega), List.drop_of_length_le (by omega), wrap_id (by omega) (by omega)]
    rfl
  | succ m ih =>
    intro j n hj hn
    have hlt : j < l.length := by omega
    have hc := hr l[j] (List.getElem_mem hlt)
    refine ev_to _ (ev_rw (ih (j + 1) (stepP n l[j]) (by omega) (stepP_rng _ _)) (by rw [List.drop_eq_getElem_cons hlt]; rfl)) fun k => ?_
    show entry_sum.l0 (k + 1) n l _ _ = _
    have e : ((Go.bits .xor .u32 n (l[j] % 4294967296)) * 16777619) % 4294967296 = stepP n l[j] := by
      rw [Int.emod_eq_of_lt hc.1 (by omega), u32_xor n l[j] hn.1 hn.2 hc.1 (by omega)]; rfl
    rw [entry_sum.l0, if_pos (by omega), if_pos (by omega), if_pos (by omega), rd_at l j hlt, e, wrap_id (by omega) (by omega), show (j : Int) + 1 = ((j + 1 : Nat) : Int) from by omega]
theorem sum_ev (l : List Int) (hl : l.length ≤ 1000000000000) (hr : ∀ x ∈ l, 0 ≤ x ∧ x < 256) : Ev (fun k => entry_sum.f k l) (sumP l) :=
  sum_loop l hl hr l.length 0 _ (by omega) (by omega)
theorem xor_lt (n c : Int) (hn : 0 ≤ n ∧ n < 4294967296) (hc : 0 ≤ c ∧ c < 256) : n.toNat ^^^ c.toNat < 4294967296 := Nat.xor_lt_two_pow (n := 32) (by omega) (by omega)
theorem back_step (x : Int) (h0 : 0 ≤ x) (h1 : x < 4294967296) : x * 16777619 % 4294967296 * 899433627 % 4294967296 = x := by omega
theorem xor_cancel (a b c : Nat) (h : a ^^^ c = b ^^^ c) : a = b := by
  have := congrArg (· ^^^ c) h
  simpa [Nat.xor_assoc] using this
/-- A step of a sum can be gone back. -/
theorem back_inj (x y : Nat) (h1 : x < 4294967296) (h2 : y < 4294967296) (h : (x : Int) * 16777619 % 4294967296 = (y : Int) * 16777619 % 4294967296) : x = y := by
  have h3 := back_step (x : Int) (Int.natCast_nonneg _) (Int.ofNat_lt.2 h1)
  have h4 := back_step (y : Int) (Int.natCast_nonneg _) (Int.ofNat_lt.2 h2)
  rw [h] at h3
  exact Int.ofNat.inj (h3.symm.trans h4)
theorem stepP_inj (a b c d : Int) (ha : 0 ≤ a ∧ a < 4294967296) (hb : 0 ≤ b ∧ b < 4294967296) (hc : 0 ≤ c ∧ c < 256) (hd : 0 ≤ d ∧ d < 256) (h : stepP a c = stepP b d) : a.toNat ^^^ c.toNat = b.toNat ^^^ d.toNat :=
  back_inj _ _ (xor_lt a c ha hc) (xor_lt b d hb hd) h
theorem fold_inj (l : List Int) (hr : ∀ x ∈ l, 0 ≤ x ∧ x < 256) : ∀ a b : Int, 0 ≤ a ∧ a < 4294967296 → 0 ≤ b ∧ b < 4294967296 → l.foldl stepP a = l.foldl stepP b → a = b := by
  induction l with
  | nil => intro a b _ _ h; exact h
  | cons c l ih =>
    intro a b ha hb h
    have hc := hr c (List.mem_cons_self ..)
    have h2 := ih (fun x hx => hr x (List.mem_cons_of_mem _ hx)) _ _ (stepP_rng a c) (stepP_rng b c) h
    have h3 := stepP_inj a b c c ha hb hc hc h2
    have h4 : a.toNat = b.toNat := xor_cancel _ _ _ h3
    omega
/-- A sum tells a byte that is turned. -/
theorem sumP_turned (l m : List Int) (x y : Int) (hl : ∀ x ∈ l, 0 ≤ x ∧ x < 256) (hm : ∀ x ∈ m, 0 ≤ x ∧ x < 256) (hx : 0 ≤ x ∧ x < 256) (hy : 0 ≤ y ∧ y < 256) (h : sumP (l ++ x :: m) = sumP (l ++ y :: m)) : x = y := by
  unfold sumP at h
  rw [List.foldl_append, List.foldl_append] at h
  have h0 := fold_rng l 2166136261 (by omega)
  generalize l.foldl stepP 2166136261 = n at *
  have h1 := fold_inj m hm _ _ (stepP_rng n x) (stepP_rng n y) h
  have h2 := stepP_inj n n x y h0 h0 hx hy h1
  have h4 : x.toNat = y.toNat := xor_cancel _ _ n.toNat (by rw [Nat.xor_comm x.toNat, Nat.xor_comm y.toNat]; exact h2)
  omega
end Go.Proofs.YtllnleokjcimhaaDoor.Pure
