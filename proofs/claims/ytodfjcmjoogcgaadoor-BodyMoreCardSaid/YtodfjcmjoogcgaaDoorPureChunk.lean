import Derived.Test.YtodfjcmjoogcgaaDoorPureBody
namespace Go.Proofs.YtodfjcmjoogcgaaDoor.Pure
open Go.RowKit Go.Proofs.YtodfjcmjoogcgaaDoor.P Go.Proofs.YtodfjcmjoogcgaaDoorW.PrintWords Go.Proofs.YtodfjcmjoogcgaaDoorW.PrintLast Go.Proofs.YtodfjcmjoogcgaaDoorW.PrintMore
set_option linter.unusedVariables false
set_option linter.unusedSimpArgs false
/-- A chunk. -/
def enc (b : List Int) : List Int := il8 (hexN b.length) ++ 13 :: 10 :: (b ++ [13, 10])
theorem enc_len (b : List Int) : (enc b).length = (hexN b.length).length + b.length + 4 := by simp [enc, il8_len]; omega
theorem enc_le (b : List Int) (h : b.length < 4294967296) : (enc b).length ≤ b.length + 12 := by
  rw [enc_len]; have := hexN_len 7 b.length (by simpa using h); omega
theorem crlf : bytesOf (⟨#[13, 10]⟩ : ByteArray) = ([13, 10] : List Int) := by decide +kernel
theorem chunk_f (l b : List Int) (hb : b.length < 4294967296) (hl : l.length < 70368744177664) : body_chunk.f l b = some (l ++ enc b) := by
  have hx := hexN_len 7 b.length (by simpa using hb)
  have hlen : (l ++ il8 (hexN b.length)).length ≤ l.length + 8 := by rw [List.length_append, il8_len]; omega
  have hil : (il8 (hexN b.length)).length ≤ 8 := by rw [il8_len]; omega
  unfold body_chunk.f strconv_AppendInt.f
  rw [if_pos ⟨rfl, by omega, by omega, by omega⟩]
  simp only [Option.bind_some, Int.toNat_natCast, crlf]
  rw [if_pos (by omega), if_pos (by rw [List.length_append]; simp; omega), if_pos (by rw [List.length_append, List.length_append]; simp; omega)]
  simp [enc]
theorem read_piece {s : List Int} {i : Int} {tail out b : List Int} (k : Nat) (hb : b ≠ []) (ho : out.length + b.length ≤ 2048) (hs : s.length < 140737488350000) (h : LS s i (enc b ++ tail)) :
    body_reader_chunks.l (k + 1) s out i 0 = body_reader_chunks.l k s (out ++ b) (i + ((enc b).length : Int)) 0 := by
  have hbl := List.length_pos_iff.2 hb
  have h1 : LS s i (il8 (hexN b.length) ++ 13 :: 10 :: (b ++ (13 :: 10 :: tail))) := by simpa [enc] using h
  have h2 : LS s (i + ((hexN b.length).length : Int) + 2) (b ++ (13 :: 10 :: tail)) := by
    have := h1.drop; rw [il8_len] at this
    have := this.next.next
    rw [show i + ((hexN b.length).length : Int) + 2 = i + ((hexN b.length).length : Int) + 1 + 1 from by omega]; exact this
  have h3 := h2.drop
  have hsz := size_ok b.length (by omega) (by omega) h1
  have hle := h2.le
  simp at hle
  have hge := h2.ge
  generalize hj : i + ((hexN b.length).length : Int) + 2 = j at *
  simp only [body_reader_chunks.l, if_true, hsz, Option.bind_some]
  have w1 : wrap64 (2048 - (out.length : Int)) = 2048 - (out.length : Int) := wrap_id (by omega) (by omega)
  have w2 : wrap64 ((s.length : Int) - j) = (s.length : Int) - j := wrap_id (by omega) (by omega)
  rw [w1, w2, if_neg (by omega), if_neg (by omega), if_pos ⟨by omega, by omega, by omega, by omega, by omega⟩, show min (b.length : Int) ((s.length : Int) - j) = (b.length : Int) from by omega, if_neg (by omega), wrap_id (by omega) (by omega), line_ok h3 (by omega)]
  simp only [Option.bind_some]
  rw [show (s.drop j.toNat).take (b.length : Int).toNat = b from by rw [h2.eq]; simp, enc_len, ← hj]
  congr 1
  omega
theorem read_last {s : List Int} {i : Int} {tail out : List Int} (k : Nat) (ho : out.length ≤ 2048) (hs : s.length < 140737488350000) (h : LS s i (enc [] ++ tail)) :
    body_reader_chunks.l (k + 1) s out i 0 = some (out, i + ((enc []).length : Int), 0) := by
  have h1 : LS s i (il8 (hexN 0) ++ 13 :: 10 :: (13 :: 10 :: tail)) := by simpa [enc] using h
  have h2 : LS s (i + ((hexN 0).length : Int) + 2) (13 :: 10 :: tail) := by
    have := h1.drop; rw [il8_len] at this
    have := this.next.next
    rw [show i + ((hexN 0).length : Int) + 2 = i + ((hexN 0).length : Int) + 1 + 1 from by omega]; exact this
  have hsz := size_ok 0 (by omega) (by omega) h1
  simp only [Int.natCast_zero] at hsz
  simp only [body_reader_chunks.l, if_true, hsz, Option.bind_some]
  have w1 : wrap64 (2048 - (out.length : Int)) = 2048 - (out.length : Int) := wrap_id (by omega) (by omega)
  rw [w1, if_neg (by omega), line_ok h2 (by omega)]
  simp only [Option.bind_some, enc_len]
  simp
  omega
theorem read_big {s : List Int} {i : Int} {tail out b : List Int} (k : Nat) (hb : b.length < 4294967296) (hol : out.length ≤ 2048) (ho : 2048 < out.length + b.length) (hs : s.length < 140737488350000) (h : LS s i (enc b ++ tail)) :
    ∃ j, body_reader_chunks.l (k + 2) s out i 0 = some (out, j, 23) := by
  have h1 : LS s i (il8 (hexN b.length) ++ 13 :: 10 :: (b ++ (13 :: 10 :: tail))) := by simpa [enc] using h
  have hsz := size_ok b.length hb (by omega) h1
  refine ⟨i + ((hexN b.length).length : Int) + 2, ?_⟩
  simp only [body_reader_chunks.l, if_true, hsz, Option.bind_some]
  have w1 : wrap64 (2048 - (out.length : Int)) = 2048 - (out.length : Int) := wrap_id (by omega) (by omega)
  rw [w1, if_pos (by omega), if_neg (by decide)]
end Go.Proofs.YtodfjcmjoogcgaaDoor.Pure
