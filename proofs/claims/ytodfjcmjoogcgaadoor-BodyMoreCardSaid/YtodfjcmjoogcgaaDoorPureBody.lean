import Derived.Test.YtodfjcmjoogcgaaDoorPx3
import Derived.Test.YtodfjcmjoogcgaaDoorPx2
import Derived.Test.YtodfjcmjoogcgaaDoorPureBase
namespace Go.Proofs.YtodfjcmjoogcgaaDoor.Pure
open Go.RowKit Go.Proofs.YtodfjcmjoogcgaaDoor.P Go.Proofs.YtodfjcmjoogcgaaDoorW.PrintWords Go.Proofs.YtodfjcmjoogcgaaDoorW.PrintLast Go.Proofs.YtodfjcmjoogcgaaDoorW.PrintMore
set_option linter.unusedVariables false
set_option linter.unusedSimpArgs false
/-- What stands in s from i on. -/
structure LS (s : List Int) (i : Int) (l : List Int) : Prop where
  ge : 0 ≤ i
  le : i + l.length = s.length
  eq : s.drop i.toNat = l
theorem LS.start (s : List Int) : LS s 0 s := ⟨by omega, by omega, rfl⟩
theorem LS.last {s : List Int} {i : Int} (h : LS s i []) : i = (s.length : Int) := by have := h.le; simp at this; omega
theorem LS.lt {s : List Int} {i c : Int} {l : List Int} (h : LS s i (c :: l)) : i < (s.length : Int) := by have := h.le; simp at this; omega
theorem LS.rd {s : List Int} {i c : Int} {l : List Int} (h : LS s i (c :: l)) : rd s i = c := by
  have := congrArg (·[0]?) h.eq
  have h2 : s[i.toNat]? = some c := by simpa [List.getElem?_drop] using this
  show s.getD i.toNat 0 = c
  simp [List.getD, h2]
theorem LS.drop {s : List Int} {i : Int} {l m : List Int} (h : LS s i (l ++ m)) : LS s (i + l.length) m := by
  have h0 := h.ge; have h1 := h.le
  simp at h1
  refine ⟨by omega, by omega, ?_⟩
  rw [show (i + (l.length : Int)).toNat = i.toNat + l.length from by omega, ← List.drop_drop, h.eq, List.drop_left]
theorem LS.next {s : List Int} {i c : Int} {l : List Int} (h : LS s i (c :: l)) : LS s (i + 1) l := by
  have := LS.drop (l := [c]) (m := l) (by simpa using h)
  simpa using this
theorem LS.wrap {s : List Int} {i c : Int} {l : List Int} (h : LS s i (c :: l)) (hs : s.length ≤ 4611686018427387904) : wrap64 (i + 1) = i + 1 :=
  wrap_id (by have := h.ge; omega) (by have := h.lt; omega)
theorem more_at {s : List Int} {i c : Int} {l : List Int} (h : LS s i (c :: l)) : body_reader_more.f s i 0 = some (true, i, 0) := by
  have := h.lt
  simp [body_reader_more.f, show ¬ i = (s.length : Int) from by omega]
theorem more_end {s : List Int} {i : Int} (h : LS s i []) : body_reader_more.f s i 0 = some (false, i, 20) := by
  simp [body_reader_more.f, h.last]
theorem more_err (s : List Int) (i e : Int) (he : e ≠ 0) : body_reader_more.f s i e = some (false, i, e) := by
  simp [body_reader_more.f, he]
theorem line_err (s : List Int) (i e : Int) (he : e ≠ 0) : body_reader_line.f 6 s i e = some (i, e) := by
  simp [body_reader_line.f, body_reader_line.l0, body_reader_line.j1, more_err s i e he]
theorem bt0 : bt (⟨#[13, 10]⟩ : ByteArray) 0 = 13 := by decide +kernel
theorem bt1 : bt (⟨#[13, 10]⟩ : ByteArray) 1 = 10 := by decide +kernel
theorem line_ok {s : List Int} {i : Int} {l : List Int} (h : LS s i (13 :: 10 :: l)) (hs : s.length ≤ 4611686018427387904) : body_reader_line.f 6 s i 0 = some (i + 2, 0) := by
  have h2 := h.next
  have w1 : wrap64 (0 + 1) = 1 := wrap_id (by decide) (by decide)
  have w2 : wrap64 (1 + 1) = 2 := wrap_id (by decide) (by decide)
  have := h.ge; have := h.lt; have := h2.lt
  simp only [body_reader_line.f, body_reader_line.l0, body_reader_line.j1, more_at h, Option.bind_some, h.rd, bt0, h.wrap hs, w1]
  simp only [show (0 : Int) < 2 from by decide, if_true, show (0 : Int) ≤ i from h.ge, show i < (s.length : Int) from h.lt, show (0:Int) ≤ 0 from by decide]
  simp only [show (1 : Int) < 2 from by decide, if_true, more_at h2, Option.bind_some, show (0 : Int) ≤ i + 1 from by omega, show i + 1 < (s.length : Int) from h2.lt, show (0:Int) ≤ 1 from by decide, h2.rd, bt1, h2.wrap hs, w2]
  simp [show i + 1 + 1 = i + 2 from by omega]
theorem or16 (n d : Nat) (hn : n < 4294967296) (hd : d < 16) : Go.bits .or .i64 ((n : Int) * 16) (d : Int) = (n : Int) * 16 + d := by
  have h1 : n * 16 ||| d = n * 16 + d := by
    have := Nat.two_pow_add_eq_or_of_lt (i := 4) (b := d) (by omega) n
    rw [Nat.mul_comm n 16]; exact this.symm
  have e : ((n : Int) * 16) = ((n * 16 : Nat) : Int) := by omega
  rw [e]
  have a1 : (BitVec.ofInt 64 ((n * 16 : Nat) : Int)).toNat = n * 16 := by
    rw [BitVec.ofInt_natCast, BitVec.toNat_ofNat]; exact Nat.mod_eq_of_lt (by omega)
  have a2 : (BitVec.ofInt 64 (d : Int)).toNat = d := by
    rw [BitVec.ofInt_natCast, BitVec.toNat_ofNat]; exact Nat.mod_eq_of_lt (by omega)
  show IntKind.i64.wrap ((BitVec.ofInt 64 ((n * 16 : Nat) : Int) ||| BitVec.ofInt 64 (d : Int)).toNat : Int) = _
  rw [BitVec.toNat_or, a1, a2, h1, IntKind.wrap_i64]
  omega
/-- What a hex digit is worth. -/
def dig (b : UInt8) : Nat := (digV (b.toNat : Int)).toNat
def isHex (b : UInt8) : Prop := 0 ≤ digV (b.toNat : Int)
def hexVal (l : List UInt8) : Nat := l.foldl (fun n b => n * 16 + dig b) 0
theorem dig_hexd (n : Nat) (h : n < 16) : digV ((hexd n).toNat : Int) = n := by
  have : ∀ n, n < 16 → digV ((hexd n).toNat : Int) = n := by decide +kernel
  exact this n h
theorem hexVal_snoc (l : List UInt8) (b : UInt8) : hexVal (l ++ [b]) = hexVal l * 16 + dig b := by simp [hexVal]
theorem hexVal_hexN (n : Nat) : hexVal (hexN n) = n := by
  induction n using Nat.strongRecOn with
  | ind n ih =>
    by_cases h : n < 16
    · rw [hexN_lo n h]; simp [hexVal, dig, dig_hexd n h]
    · rw [hexN_hi n h, hexVal_snoc, ih (n / 16) (by omega), dig, dig_hexd _ (by omega)]
      simp; omega
theorem hexN_len (k : Nat) : ∀ n, n < 16 ^ (k + 1) → (hexN n).length ≤ k + 1 := by
  induction k with
  | zero => intro n h; rw [hexN_lo n (by simpa using h)]; simp
  | succ k ih =>
    intro n h
    by_cases h2 : n < 16
    · rw [hexN_lo n h2]; simp
    · rw [hexN_hi n h2, List.length_append]
      have := ih (n / 16) (by rw [Nat.pow_succ] at h; omega)
      simp; omega
theorem hexN_ne (n : Nat) : hexN n ≠ [] := by
  by_cases h : n < 16
  · rw [hexN_lo n h]; simp
  · rw [hexN_hi n h]; simp
theorem hexN_hex (n : Nat) : ∀ b ∈ hexN n, isHex b := by
  induction n using Nat.strongRecOn with
  | ind n ih =>
    by_cases h : n < 16
    · rw [hexN_lo n h]; intro b hb; simp at hb; subst hb; rw [isHex, dig_hexd n h]; omega
    · rw [hexN_hi n h]; intro b hb; simp at hb
      rcases hb with hb | rfl
      · exact ih _ (by omega) b hb
      · rw [isHex, dig_hexd _ (by omega)]; omega
theorem dig_lt (b : UInt8) (h : isHex b) : dig b < 16 := by
  have : ∀ n, n < 256 → 0 ≤ digV ((n : Nat) : Int) → (digV ((n : Nat) : Int)).toNat < 16 := by decide +kernel
  exact this _ b.toNat_lt h
theorem dig_int (b : UInt8) (h : isHex b) : digV (b.toNat : Int) = (dig b : Int) := by
  unfold dig; unfold isHex at h; omega
theorem il8_cons (b : UInt8) (l : List UInt8) : il8 (b :: l) = (b.toNat : Int) :: il8 l := rfl
theorem il8_len (l : List UInt8) : (il8 l).length = l.length := by simp [il8]
theorem size_digits (s : List Int) (hs : s.length ≤ 4611686018427387904) (tail : List Int) : ∀ (ds : List UInt8) (k c n : Nat) (i : Int), LS s i (il8 ds ++ 13 :: tail) → (∀ b ∈ ds, isHex b) → ds.length < k → c + ds.length ≤ 8 → n < 16 ^ c →
    body_reader_size.l k s n c i 0 = body_reader_size.fin s ((ds.foldl (fun n b => n * 16 + dig b) n : Nat) : Int) ((c + ds.length : Nat) : Int) (i + ds.length) 0
  | [], k + 1, c, n, i, h, _, _, _, _ => by
    have h' : LS s i (13 :: tail) := by simpa [il8] using h
    simp only [body_reader_size.l, if_true]
    rw [if_neg (by have := h'.lt; omega), if_pos ⟨h'.ge, h'.lt, by rw [h'.rd]; decide, by rw [h'.rd]; decide⟩, h'.rd, if_neg (by decide)]
    simp
  | b :: ds, k + 1, c, n, i, h, hx, hk, hc, hn => by
    have h' : LS s i ((b.toNat : Int) :: (il8 ds ++ 13 :: tail)) := by simpa [il8_cons] using h
    have hb := hx b (by simp)
    have hcl : c + ds.length + 1 ≤ 8 := by simp at hc; omega
    have hn8 : n < 268435456 := Nat.lt_of_lt_of_le hn (Nat.pow_le_pow_right (by decide) (show c ≤ 7 from by omega))
    have hd := dig_lt b hb
    have ih := size_digits s hs tail ds k (c + 1) (n * 16 + dig b) (i + 1) h'.next (fun x hx' => hx x (by simp [hx'])) (by simpa using hk) (by omega) (by rw [Nat.pow_succ]; omega)
    simp only [body_reader_size.l, if_true]
    rw [if_neg (by have := h'.lt; omega), if_pos ⟨h'.ge, h'.lt, by rw [h'.rd]; omega, by rw [h'.rd]; have := b.toNat_lt; omega⟩, h'.rd, if_pos (show 0 ≤ digV (b.toNat : Int) from hb), if_neg (by omega), h'.wrap hs, wrap_id (by omega) (by omega), wrap_id (by omega) (by omega), dig_int b hb, or16 n (dig b) (by omega) hd]
    rw [show ((n : Int) * 16 + (dig b : Int)) = ((n * 16 + dig b : Nat) : Int) from by omega, show ((c : Int) + 1) = ((c + 1 : Nat) : Int) from by omega, ih]
    simp only [List.foldl_cons, List.length_cons]
    rw [show c + 1 + ds.length = c + (ds.length + 1) from by omega, show i + 1 + (ds.length : Int) = i + ((ds.length + 1 : Nat) : Int) from by omega]
theorem size_ok {s : List Int} {i : Int} {tail : List Int} (n : Nat) (hn : n < 4294967296) (hs : s.length ≤ 4611686018427387904) (h : LS s i (il8 (hexN n) ++ 13 :: 10 :: tail)) : body_reader_size.f s i 0 = some ((n : Int), i + ((hexN n).length : Int) + 2, 0) := by
  have hl := hexN_len 7 n (by simpa using hn)
  have hne := List.length_pos_iff.2 (hexN_ne n)
  unfold body_reader_size.f
  have := size_digits s hs (10 :: tail) (hexN n) 10 0 0 i h (hexN_hex n) (by omega) (by omega) (by decide)
  simp only [Int.natCast_zero] at this
  rw [this, show (hexN n).foldl (fun n b => n * 16 + dig b) 0 = n from hexVal_hexN n]
  have h2 : LS s (i + ((il8 (hexN n)).length : Int)) (13 :: 10 :: tail) := h.drop
  rw [il8_len] at h2
  unfold body_reader_size.fin
  rw [if_neg (by omega), line_ok h2 hs]
  rfl
end Go.Proofs.YtodfjcmjoogcgaaDoor.Pure
