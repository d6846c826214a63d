import Derived.Test.YtodfjcmjoogcgaaDoorPureChunk
namespace Go.Proofs.YtodfjcmjoogcgaaDoor.Pure
open Go.RowKit Go.Proofs.YtodfjcmjoogcgaaDoor.P Go.Proofs.YtodfjcmjoogcgaaDoorW.PrintWords Go.Proofs.YtodfjcmjoogcgaaDoorW.PrintLast Go.Proofs.YtodfjcmjoogcgaaDoorW.PrintMore
set_option linter.unusedVariables false
set_option linter.unusedSimpArgs false
theorem pre_split {p a t : List Int} (h : p <+: a ++ t) : (p.length < a.length ∧ p <+: a) ∨ ∃ q, p = a ++ q ∧ q <+: t := by
  rcases Nat.lt_or_ge p.length a.length with hl | hl
  · exact .inl ⟨hl, List.prefix_of_prefix_length_le h (List.prefix_append a t) (Nat.le_of_lt hl)⟩
  · right
    obtain ⟨q, rfl⟩ := List.prefix_of_prefix_length_le (List.prefix_append a t) h hl
    exact ⟨q, rfl, (List.prefix_append_right_inj a).1 h⟩
/-- c is chunks of b. -/
inductive Coded : List Int → List Int → Prop
  | last : Coded [] (enc [])
  | piece {p b c : List Int} : p ≠ [] → Coded b c → Coded (p ++ b) (enc p ++ c)
theorem enc_pos (b : List Int) : 4 ≤ (enc b).length := by rw [enc_len]; omega
theorem coded_pos {b c : List Int} (h : Coded b c) : 4 ≤ c.length := by
  cases h with
  | last => exact enc_pos _
  | @piece p b c hp hc => rw [List.length_append]; have := enc_pos p; omega
theorem coded_back {b c : List Int} (h : Coded b c) : ∀ {s : List Int} {i : Int} {tail out : List Int} (k : Nat), out.length + b.length ≤ 2048 → s.length < 140737488350000 → LS s i (c ++ tail) → c.length ≤ k → body_reader_chunks.l k s out i 0 = some (out ++ b, i + (c.length : Int), 0) := by
  induction h with
  | last =>
    intro s i tail out k ho hs h hk
    obtain ⟨k, rfl⟩ : ∃ m, k = m + 1 := ⟨k - 1, by have := enc_pos []; omega⟩
    rw [read_last k (by simpa using ho) hs h]; simp
  | @piece p b c hp hc ih =>
    intro s i tail out k ho hs h hk
    rw [List.length_append] at hk ho
    obtain ⟨k, rfl⟩ : ∃ m, k = m + 1 := ⟨k - 1, by have := enc_pos p; omega⟩
    rw [List.append_assoc] at h
    rw [read_piece k hp (by omega) hs h]
    rw [ih k (by rw [List.length_append]; omega) hs h.drop (by have := enc_pos p; omega), List.append_assoc, List.length_append]
    congr 2
    simp; omega
theorem coded_big {b c : List Int} (h : Coded b c) : ∀ {s : List Int} {i : Int} {tail out : List Int} (k : Nat), b.length < 4294967296 → out.length ≤ 2048 → 2048 < out.length + b.length → s.length < 140737488350000 → LS s i (c ++ tail) → c.length ≤ k → ∃ o j, body_reader_chunks.l k s out i 0 = some (o, j, 23) := by
  induction h with
  | last => intro s i tail out k _ h1 h2; simp at h2; omega
  | @piece p b c hp hc ih =>
    intro s i tail out k hb h1 h2 hs h hk
    rw [List.length_append] at hk hb h2
    have := enc_pos p
    have := coded_pos hc
    rw [List.append_assoc] at h
    rcases Nat.lt_or_ge 2048 (out.length + p.length) with hx | hx
    · obtain ⟨k, rfl⟩ : ∃ m, k = m + 2 := ⟨k - 2, by omega⟩
      obtain ⟨j, hj⟩ := read_big k (by omega) h1 hx hs h
      exact ⟨_, j, hj⟩
    · obtain ⟨k, rfl⟩ : ∃ m, k = m + 1 := ⟨k - 1, by omega⟩
      rw [read_piece k hp hx hs h]
      exact ih k (by omega) (by rw [List.length_append]; omega) (by rw [List.length_append]; omega) hs h.drop (by omega)
theorem line_end {s : List Int} {i : Int} (h : LS s i []) : body_reader_line.f 6 s i 0 = some (i, 20) := by
  simp only [body_reader_line.f, body_reader_line.l0, body_reader_line.j1, more_end h, Option.bind_some]
  simp
theorem line_cut {s : List Int} {i : Int} (h : LS s i [13]) (hs : s.length ≤ 4611686018427387904) : body_reader_line.f 6 s i 0 = some (i + 1, 20) := by
  have h2 := h.next
  have w1 : wrap64 (0 + 1) = 1 := wrap_id (by decide) (by decide)
  have := h.ge; have := h.lt
  simp only [body_reader_line.f, body_reader_line.l0, body_reader_line.j1, more_at h, Option.bind_some, h.rd, bt0, h.wrap hs, w1]
  simp only [show (0 : Int) < 2 from by decide, if_true, show (0 : Int) ≤ i from h.ge, show i < (s.length : Int) from h.lt, show (0:Int) ≤ 0 from by decide]
  simp only [show (1 : Int) < 2 from by decide, if_true, more_end h2, Option.bind_some]
  simp
theorem line_part {s : List Int} {i : Int} {q : List Int} (h : LS s i q) (hs : s.length ≤ 4611686018427387904) (hq : q <+: [13, 10]) (hne : q ≠ [13, 10]) : ∃ j, body_reader_line.f 6 s i 0 = some (j, 20) := by
  match q, hq, hne, h with
  | [], _, _, h => exact ⟨_, line_end h⟩
  | [a], hq, _, h =>
    have : a = 13 := by simpa using hq
    subst this
    exact ⟨_, line_cut h hs⟩
  | a :: b :: l, hq, hne, h =>
    exfalso; apply hne
    simp at hq
    obtain ⟨rfl, rfl, rfl⟩ := hq
    rfl
theorem size_digits_end (s : List Int) (hs : s.length ≤ 4611686018427387904) : ∀ (ds : List UInt8) (k c n : Nat) (i : Int), LS s i (il8 ds) → (∀ b ∈ ds, isHex b) → ds.length < k → c + ds.length ≤ 8 → n < 16 ^ c →
    ∃ m j, body_reader_size.l k s n c i 0 = some (m, j, 20)
  | [], k + 1, c, n, i, h, _, _, _, _ => by
    have h' : LS s i [] := by simpa [il8] using h
    simp only [body_reader_size.l, if_true]
    rw [if_pos (by have := h'.last; omega)]
    unfold body_reader_size.fin
    rw [if_neg (by omega), line_err _ _ _ (by decide)]
    exact ⟨_, _, rfl⟩
  | b :: ds, k + 1, c, n, i, h, hx, hk, hc, hn => by
    have h' : LS s i ((b.toNat : Int) :: il8 ds) := by simpa [il8_cons] using h
    have hb := hx b (by simp)
    have hcl : c + ds.length + 1 ≤ 8 := by simp at hc; omega
    have hn8 : n < 268435456 := Nat.lt_of_lt_of_le hn (Nat.pow_le_pow_right (by decide) (show c ≤ 7 from by omega))
    have hd := dig_lt b hb
    have ih := size_digits_end s hs ds k (c + 1) (n * 16 + dig b) (i + 1) h'.next (fun x hx' => hx x (by simp [hx'])) (by simpa using hk) (by omega) (by rw [Nat.pow_succ]; omega)
    simp only [body_reader_size.l, if_true]
    rw [if_neg (by have := h'.lt; omega), if_pos ⟨h'.ge, h'.lt, by rw [h'.rd]; omega, by rw [h'.rd]; have := b.toNat_lt; omega⟩, h'.rd, if_pos (show 0 ≤ digV (b.toNat : Int) from hb), if_neg (by omega), h'.wrap hs, wrap_id (by omega) (by omega), wrap_id (by omega) (by omega), dig_int b hb, or16 n (dig b) (by omega) hd]
    rw [show ((n : Int) * 16 + (dig b : Int)) = ((n * 16 + dig b : Nat) : Int) from by omega, show ((c : Int) + 1) = ((c + 1 : Nat) : Int) from by omega]
    exact ih
theorem size_part {s : List Int} {i : Int} {p : List Int} (n : Nat) (hn : n < 4294967296) (hs : s.length ≤ 4611686018427387904) (h : LS s i p) (hp : p <+: il8 (hexN n) ++ [13, 10]) (hne : p ≠ il8 (hexN n) ++ [13, 10]) : ∃ m j, body_reader_size.f s i 0 = some (m, j, 20) := by
  have hl := hexN_len 7 n (by simpa using hn)
  have hh := hexN_hex n
  have hpos := List.length_pos_iff.2 (hexN_ne n)
  unfold body_reader_size.f
  rcases pre_split hp with ⟨hlt, hpre⟩ | ⟨q, rfl, hq⟩
  · obtain ⟨t, ht⟩ := hpre
    have hp2 : p = il8 ((hexN n).take p.length) := by
      unfold il8; rw [List.map_take]
      have := congrArg (List.take p.length) ht
      rw [List.take_left] at this
      exact this
    rw [hp2] at h
    exact size_digits_end s hs _ 10 0 0 i h (fun b hb => hh b (List.mem_of_mem_take hb)) (by rw [List.length_take]; omega) (by rw [List.length_take]; omega) (by decide)
  · match q, hq, hne, h with
    | [], _, _, h =>
      rw [List.append_nil] at h
      exact size_digits_end s hs _ 10 0 0 i h hh (by omega) (by omega) (by decide)
    | [a], hq, _, h =>
      obtain rfl : a = 13 := by simpa using hq
      have := size_digits s hs [] (hexN n) 10 0 0 i h hh (by omega) (by omega) (by decide)
      simp only [Int.natCast_zero] at this
      rw [this]
      have h2 : LS s (i + ((il8 (hexN n)).length : Int)) [13] := h.drop
      rw [il8_len] at h2
      unfold body_reader_size.fin
      rw [if_neg (by omega), line_cut h2 hs]
      exact ⟨_, _, rfl⟩
    | a :: b :: l, hq, hne, h =>
      exfalso; apply hne
      simp at hq
      obtain ⟨rfl, rfl, rfl⟩ := hq
      rfl
theorem chunks_err (k : Nat) (s out : List Int) (i e : Int) (he : e ≠ 0) : body_reader_chunks.l (k + 1) s out i e = some (out, i, e) := by
  simp only [body_reader_chunks.l]; rw [if_neg he]
/-- A chunk that is cut off asks for more. -/
theorem read_cut {s : List Int} {i : Int} {p out b : List Int} (k : Nat) (hb : b.length < 4294967296) (ho : out.length + b.length ≤ 2048) (hs : s.length < 140737488350000) (h : LS s i p) (hp : p <+: enc b) (hne : p ≠ enc b) : ∃ o j, body_reader_chunks.l (k + 2) s out i 0 = some (o, j, 20) := by
  have e1 : enc b = (il8 (hexN b.length) ++ [13, 10]) ++ (b ++ [13, 10]) := by simp [enc]
  rw [e1] at hp hne
  have w1 : wrap64 (2048 - (out.length : Int)) = 2048 - (out.length : Int) := wrap_id (by omega) (by omega)
  rcases pre_split hp with ⟨hlt, hpre⟩ | ⟨q, rfl, hq⟩
  · obtain ⟨m, j, hm⟩ := size_part b.length hb (by omega) h hpre (by intro e; rw [e] at hlt; omega)
    simp only [body_reader_chunks.l, if_true, hm, Option.bind_some]
    rw [if_neg (by decide), if_neg (by decide)]
    exact ⟨_, _, rfl⟩
  · have h1 : LS s i (il8 (hexN b.length) ++ 13 :: 10 :: q) := by simpa using h
    have h2 : LS s (i + ((hexN b.length).length : Int) + 2) q := by
      have := h1.drop; rw [il8_len] at this
      have := this.next.next
      rw [show i + ((hexN b.length).length : Int) + 2 = i + ((hexN b.length).length : Int) + 1 + 1 from by omega]; exact this
    have hsz := size_ok b.length hb (by omega) h1
    have hle := h2.le
    have hge := h2.ge
    generalize hj : i + ((hexN b.length).length : Int) + 2 = j at *
    have w2 : wrap64 ((s.length : Int) - j) = (s.length : Int) - j := wrap_id (by omega) (by omega)
    by_cases hb0 : b = []
    · subst hb0
      rw [List.nil_append] at hq
      obtain ⟨j2, hj2⟩ := line_part h2 (by omega) hq (by intro e; apply hne; rw [e]; simp)
      simp only [List.length_nil, Int.natCast_zero] at hsz
      simp only [body_reader_chunks.l, if_true, hsz, Option.bind_some, w1]
      rw [if_neg (by omega), hj2]
      exact ⟨_, _, rfl⟩
    · have hbl := List.length_pos_iff.2 hb0
      rcases pre_split hq with ⟨hlt, hpre⟩ | ⟨r, rfl, hr⟩
      · simp only [body_reader_chunks.l, if_true, hsz, Option.bind_some]
        rw [w1, w2, if_neg (by omega), if_neg (by omega), if_pos ⟨by omega, by omega, by omega, by omega, by omega⟩, show min (b.length : Int) ((s.length : Int) - j) = (q.length : Int) from by omega, if_pos (by omega), line_err _ _ _ (by decide)]
        simp only [Option.bind_some]
        rw [if_neg (by decide)]
        exact ⟨_, _, rfl⟩
      · obtain ⟨j2, hj2⟩ := line_part h2.drop (by omega) hr (by intro e; apply hne; rw [e])
        simp only [List.length_append] at hle
        simp only [body_reader_chunks.l, if_true, hsz, Option.bind_some]
        rw [w1, w2, if_neg (by omega), if_neg (by omega), if_pos ⟨by omega, by omega, by omega, by omega, by omega⟩, show min (b.length : Int) ((s.length : Int) - j) = (b.length : Int) from by omega, if_neg (by omega), wrap_id (by omega) (by omega), hj2]
        simp only [Option.bind_some]
        rw [if_neg (by decide)]
        exact ⟨_, _, rfl⟩
theorem coded_cut {b c : List Int} (h : Coded b c) : ∀ {s : List Int} {i : Int} {p out : List Int} (k : Nat), out.length + b.length ≤ 2048 → s.length < 140737488350000 → LS s i p → p <+: c → p ≠ c → p.length + 2 ≤ k → ∃ o j, body_reader_chunks.l k s out i 0 = some (o, j, 20) := by
  induction h with
  | last =>
    intro s i p out k ho hs h hp hne hk
    obtain ⟨k, rfl⟩ : ∃ m, k = m + 2 := ⟨k - 2, by omega⟩
    exact read_cut k (by simp) ho hs h hp hne
  | @piece d b c hd hc ih =>
    intro s i p out k ho hs h hp hne hk
    rw [List.length_append] at ho
    have := enc_pos d
    rcases pre_split hp with ⟨hlt, hpre⟩ | ⟨q, rfl, hq⟩
    · obtain ⟨k, rfl⟩ : ∃ m, k = m + 2 := ⟨k - 2, by omega⟩
      exact read_cut k (by omega) (by omega) hs h hpre (by intro e; rw [e] at hlt; omega)
    · rw [List.length_append] at hk
      obtain ⟨k, rfl⟩ : ∃ m, k = m + 1 := ⟨k - 1, by omega⟩
      rw [read_piece k hd (by omega) hs h]
      exact ih k (by rw [List.length_append]; omega) hs h.drop hq (by intro e; apply hne; rw [e]) (by omega)
theorem coded_len {b c : List Int} (h : Coded b c) : c.length ≤ 16 * b.length + 16 := by
  induction h with
  | last => decide +kernel
  | @piece p b c hp hc ih =>
    have hpl := List.length_pos_iff.2 hp
    have : (hexN p.length).length ≤ p.length := by
      have : ∀ n, 0 < n → (hexN n).length ≤ n := by
        intro n
        induction n using Nat.strongRecOn with
        | ind n ih =>
          intro hn
          by_cases h : n < 16
          · rw [hexN_lo n h]; simp; omega
          · rw [hexN_hi n h, List.length_append]
            have := ih (n / 16) (by omega) (by omega)
            simp; omega
      exact this _ hpl
    rw [List.length_append, List.length_append, enc_len]; omega
end Go.Proofs.YtodfjcmjoogcgaaDoor.Pure
