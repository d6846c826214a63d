import Derived.Test.YtllnleokjcimhaaDoorZEntryFitsEnRd
/-
What the reader's lists do: so many texts, or fields, as are told.
-/
namespace Go.Proofs.YtllnleokjcimhaaDoor.En
open Go.RowKit Go.Maps Go.Proofs.YtllnleokjcimhaaDoorW.PrintWords Go.Proofs.YtllnleokjcimhaaDoorW.PrintLast Go.Proofs.YtllnleokjcimhaaDoorW.PrintMore
set_option linter.unusedVariables false
set_option linter.unusedSimpArgs false
theorem Only.of_base {w w' : World} {B : Nat} (h : Below B w w') : Only (fun k => B ≤ k) w w' := ⟨h.os, h.tape, h.output, h.size, fun k _ hk => h.block k (Nat.lt_of_not_le hk)⟩
theorem IsRd.base {w0 w w' : World} {p : Nat} {r : Rd} {B : Nat} (h : IsRd w0 w p r) (hb : Below B w w') (hp : p < B) : IsRd w0 w' p r :=
  h.other (Only.of_base hb) (fun k hk => ⟨by have := h.lp; omega, by omega⟩)
theorem get_lt {r : Rd} (h : ∀ x ∈ r.b, 0 ≤ x ∧ x < 256) : (r.get 2).1 < 65536 := by
  have h1 := (big_bound _ (bytes_rng h 2)).2
  have h2 := bytes_len r 2
  have h3 : (256 : Int) ^ (r.bytes 2).1.length ≤ 65536 := by
    have : (r.bytes 2).1.length = 0 ∨ (r.bytes 2).1.length = 1 ∨ (r.bytes 2).1.length = 2 := by omega
    rcases this with h | h | h <;> rw [h] <;> decide
  show big (r.bytes 2).1 < 65536
  omega
theorem texts_stop (m : Nat) {r : Rd} (h : r.bad = true) : Rd.texts m r = ([], r) := by
  cases m with
  | zero => rfl
  | succ m => unfold Rd.texts; rw [if_pos h]
theorem texts_go (m : Nat) {r : Rd} (h : r.bad = false) : Rd.texts (m + 1) r = (r.text.1 :: (Rd.texts m r.text.2).1, (Rd.texts m r.text.2).2) := by
  rw [Rd.texts, if_neg (by rw [h]; decide)]
/-- A field as a row has it. -/
def fdK : Kd (ByteArray × ByteArray) := Kd.pair Kd.string Kd.string
theorem info_fd : (Tryd.prog.info? 53).map (fun i => (i.zero, i.size, i.bytes)) = some (some (.agg #[.string ⟨#[]⟩, .string ⟨#[]⟩]), 2, 32) := by kernel_rfl
theorem fields_stop (m : Nat) {r : Rd} (h : r.bad = true) : Rd.fields m r = ([], r) := by
  cases m with
  | zero => rfl
  | succ m => unfold Rd.fields; rw [if_pos h]
theorem fields_go (m : Nat) {r : Rd} (h : r.bad = false) : Rd.fields (m + 1) r = (r.field.1 :: (Rd.fields m r.field.2).1, (Rd.fields m r.field.2).2) := by
  rw [Rd.fields, if_neg (by rw [h]; decide)]
section
variable {w0 w w' : World} {p : Nat} {r : Rd}
theorem IsRd.c0 (h : IsRd w0 w p r) : ∃ A c, w.cell? ⟨p, 0, none⟩ = some (.slice A r.b.length c) := by obtain ⟨A, c, h1, _⟩ := h.at_; exact ⟨A, c, by rw [cell_of_row _ _ _ _ _ _ h1]; rfl⟩
theorem IsRd.c1 (h : IsRd w0 w p r) : w.cell? ⟨p, 1, none⟩ = some (.bool r.bad) := by obtain ⟨A, c, h1, _⟩ := h.at_; rw [cell_of_row _ _ _ _ _ _ h1]; rfl
set_option maxHeartbeats 1000000 in
set_option maxRecDepth 100000 in
theorem texts_any (h : IsRd w0 w p r) :
    Calls Tryd.prog 55 #[.pointer (some ⟨p, 0, none⟩), .func (.func 54) #[.pointer (some ⟨p, 0, none⟩)] #[]] w fun e w' => ∃ v, e = .returned v ∧ Kd.R Kd.string 9 w' w.heap.size (fun k => w.heap.size ≤ k) v (Rd.texts (r.get 2).1.toNat (r.get 2).2).1 ∧ IsRd w0 w' p (Rd.texts (r.get 2).1.toNat (r.get 2).2).2 ∧ Turn p w w' := by
  have HG := Fact.mk (get_any h 2 (by omega))
  have HP := Fact.mk h.lt
  obtain ⟨m, hm⟩ := Int.eq_ofNat_of_zero_le (get_nonneg h.rng 2)
  have hm6 := get_lt h.rng
  rw [hm] at hm6
  clear h
  rw [hm] at HG ⊢
  rw [Int.toNat_natCast]
  clear hm
  generalize (r.get 2).2 = r2 at *
  have eg := enters_ Tryd.func54 (by kernel_rfl) rfl
  go_enter Tryd.func55, Tryd.ntmps55
  go_wp2_with fail
  refine HG.out.mono ?_
  rintro e w1 ⟨rfl, hn0, hn1, h1, t1⟩
  have H1 := Fact.mk h1
  have T1 := Fact.mk t1
  have I1 : Fact (∃ l, (Rd.texts m r2) = (l ++ (Rd.texts m r2).1, (Rd.texts m r2).2) ∧ l.length + m ≤ 65536 ∧ Kd.R Kd.string 9 w1 w.heap.size (fun k => w.heap.size ≤ k) (.slice none 0 0) l) := ⟨[], rfl, by simp; omega, Kd.R_nil _ _ _ _ _⟩
  clear h1 t1 HG hn0 hn1
  go_wp2_with fail
  go_loopw [5, 6] (fun v5 v6 wr => ∃ (j : Nat) (rr : Rd), v6 = .int .i64 (j : Int) ∧ Fact (∃ l, (Rd.texts m r2) = (l ++ (Rd.texts j rr).1, (Rd.texts j rr).2) ∧ l.length + j ≤ 65536 ∧ Kd.R Kd.string 9 wr w.heap.size (fun k => w.heap.size ≤ k) v5 l) ∧ Fact (IsRd w0 wr p rr) ∧ Fact (Turn p w wr)) (fun _ v _ => (intOf v).toNat)
  case atStart => exact ⟨m, r2, rfl, I1, H1, T1⟩
  case round =>
    obtain ⟨j, rr, rfl, S1, S2, S3⟩ := hrel
    clear I1 H1 T1
    obtain ⟨l, hl, hlj, hR⟩ := S1.out
    have HLe := Fact.mk hl
    have HRl := Fact.mk hR
    obtain ⟨A5, c5, rfl⟩ := Kd.R_slice hR
    clear S1 hl hR
    have c1 := S2.out.c1
    rcases Nat.eq_zero_or_pos j with h0 | h0
    · subst h0
      go_wp2_with fail
      go_ret
      have e := HLe.out
      rw [Rd.texts, List.append_nil] at e
      exact ⟨_, rfl, by rw [e]; exact HRl.out, by rw [e]; exact S2.out, S3.out⟩
    · obtain ⟨j, rfl⟩ : ∃ q, j = q + 1 := ⟨j - 1, by omega⟩
      have hj0 : (0 : Int) < ((j + 1 : Nat) : Int) := by omega
      cases hbad : rr.bad with
      | true =>
        rw [hbad] at c1
        have e := HLe.out
        rw [texts_stop _ hbad, List.append_nil] at e
        have E := Fact.mk e
        clear hbad e
        go_wp2_with fail
        go_ret
        exact ⟨_, rfl, by rw [E.out]; exact HRl.out, by rw [E.out]; exact S2.out, S3.out⟩
      | false =>
        rw [hbad] at c1
        have e := HLe.out
        rw [texts_go _ hbad] at e
        have E := Fact.mk e
        have HT := Fact.mk (text_any S2.out)
        clear hbad e
        go_wp2_with fail
        refine HT.out.mono ?_
        rintro e w3 ⟨rfl, h3, t3⟩
        have H3 := Fact.mk h3
        have T3 := Fact.mk (S3.out.trans t3)
        have R3 := Fact.mk (own_only HRl.out t3 (fun k hk e => by have := HP.out; omega))
        clear h3 t3 S2 S3 HT HRl c1
        go_wp2_with ((with_reducible refine gate_builtin (b := .append) (xs := #[.tmp 20, .tmp 23]) rfl ?_); at_builtin; refine Fact.out (p := _) ?_)
        refine Fact.mk ?_
        refine Kd.R_append Kd.string (w0 := w3) w.heap.size rfl (.tmp 20) (.tmp 23) 22 9 (.string ByteArray.empty) 16 rfl Tryd.underlying22 info_str rfl (by decide) (by decide) (.slice A5 l.length c5) l rr.text.1 [.string rr.text.1] (fun k => w.heap.size ≤ k) (fun _ => False) rfl rfl rfl (fun _ h => h.elim) ?aF ?aO ?aB ?aS ?aL ?_
        case aF => intro k hk; have := T3.out.size; omega
        case aO => exact R3.out
        case aB => exact Below.refl _ _
        case aS => exact T3.out.size
        case aL => omega
        intro v1 w5 ho hb hg hat
        have I2 : Fact (∃ l2, (Rd.texts m r2) = (l2 ++ (Rd.texts j rr.text.2).1, (Rd.texts j rr.text.2).2) ∧ l2.length + j ≤ 65536 ∧ Kd.R Kd.string 9 w5 w.heap.size (fun k => w.heap.size ≤ k) v1 l2) := ⟨l ++ [rr.text.1], by rw [E.out, List.append_assoc]; rfl, by rw [List.length_append, List.length_singleton]; omega, ho⟩
        have H5 := Fact.mk (H3.out.base hb HP.out)
        have T5 : Fact (Turn p w w5) := ⟨T3.out.then_ (Only.of_base hb) (fun k hk => .inr hk)⟩
        clear ho hb hg hat H3 T3 R3 E HLe
        go_wp2_with fail
        exact ⟨⟨j, rr.text.2, by go_num, I2, H5, T5⟩, by simp [intOf]⟩
set_option maxHeartbeats 1000000 in
set_option maxRecDepth 100000 in
theorem fields_any (h : IsRd w0 w p r) :
    Calls Tryd.prog 56 #[.pointer (some ⟨p, 0, none⟩), .func (.func 57) #[.pointer (some ⟨p, 0, none⟩)] #[]] w fun e w' => ∃ v, e = .returned v ∧ Kd.R fdK 53 w' w.heap.size (fun k => w.heap.size ≤ k) v (Rd.fields (r.get 2).1.toNat (r.get 2).2).1 ∧ IsRd w0 w' p (Rd.fields (r.get 2).1.toNat (r.get 2).2).2 ∧ Turn p w w' := by
  have HG := Fact.mk (get_any h 2 (by omega))
  have HP := Fact.mk h.lt
  obtain ⟨m, hm⟩ := Int.eq_ofNat_of_zero_le (get_nonneg h.rng 2)
  have hm6 := get_lt h.rng
  rw [hm] at hm6
  clear h
  rw [hm] at HG ⊢
  rw [Int.toNat_natCast]
  clear hm
  generalize (r.get 2).2 = r2 at *
  have eg := enters_ Tryd.func57 (by kernel_rfl) rfl
  go_enter Tryd.func56, Tryd.ntmps56
  go_wp2_with fail
  refine HG.out.mono ?_
  rintro e w1 ⟨rfl, hn0, hn1, h1, t1⟩
  have H1 := Fact.mk h1
  have T1 := Fact.mk t1
  have I1 : Fact (∃ l, (Rd.fields m r2) = (l ++ (Rd.fields m r2).1, (Rd.fields m r2).2) ∧ l.length + m ≤ 65536 ∧ Kd.R fdK 53 w1 w.heap.size (fun k => w.heap.size ≤ k) (.slice none 0 0) l) := ⟨[], rfl, by simp; omega, Kd.R_nil _ _ _ _ _⟩
  clear h1 t1 HG hn0 hn1
  go_wp2_with fail
  go_loopw [5, 6] (fun v5 v6 wr => ∃ (j : Nat) (rr : Rd), v6 = .int .i64 (j : Int) ∧ Fact (∃ l, (Rd.fields m r2) = (l ++ (Rd.fields j rr).1, (Rd.fields j rr).2) ∧ l.length + j ≤ 65536 ∧ Kd.R fdK 53 wr w.heap.size (fun k => w.heap.size ≤ k) v5 l) ∧ Fact (IsRd w0 wr p rr) ∧ Fact (Turn p w wr)) (fun _ v _ => (intOf v).toNat)
  case atStart => exact ⟨m, r2, rfl, I1, H1, T1⟩
  case round =>
    obtain ⟨j, rr, rfl, S1, S2, S3⟩ := hrel
    clear I1 H1 T1
    obtain ⟨l, hl, hlj, hR⟩ := S1.out
    have HLe := Fact.mk hl
    have HRl := Fact.mk hR
    obtain ⟨A5, c5, rfl⟩ := Kd.R_slice hR
    clear S1 hl hR
    have c1 := S2.out.c1
    rcases Nat.eq_zero_or_pos j with h0 | h0
    · subst h0
      go_wp2_with fail
      go_ret
      have e := HLe.out
      rw [Rd.fields, List.append_nil] at e
      exact ⟨_, rfl, by rw [e]; exact HRl.out, by rw [e]; exact S2.out, S3.out⟩
    · obtain ⟨j, rfl⟩ : ∃ q, j = q + 1 := ⟨j - 1, by omega⟩
      have hj0 : (0 : Int) < ((j + 1 : Nat) : Int) := by omega
      cases hbad : rr.bad with
      | true =>
        rw [hbad] at c1
        have e := HLe.out
        rw [fields_stop _ hbad, List.append_nil] at e
        have E := Fact.mk e
        clear hbad e
        go_wp2_with fail
        go_ret
        exact ⟨_, rfl, by rw [E.out]; exact HRl.out, by rw [E.out]; exact S2.out, S3.out⟩
      | false =>
        rw [hbad] at c1
        have e := HLe.out
        rw [fields_go _ hbad] at e
        have E := Fact.mk e
        have HT := Fact.mk (field_any S2.out)
        clear hbad e
        go_wp2_with fail
        refine HT.out.mono ?_
        rintro e w3 ⟨rfl, h3, t3⟩
        have H3 := Fact.mk h3
        have T3 := Fact.mk (S3.out.trans t3)
        have R3 := Fact.mk (own_only HRl.out t3 (fun k hk e => by have := HP.out; omega))
        clear h3 t3 S2 S3 HT HRl c1
        go_wp2_with ((with_reducible refine gate_builtin (b := .append) (xs := #[.tmp 20, .tmp 23]) rfl ?_); at_builtin; refine Fact.out (p := _) ?_)
        refine Fact.mk ?_
        refine Kd.R_append fdK (w0 := w3) w.heap.size rfl (.tmp 20) (.tmp 23) 23 53 (.agg #[.string ⟨#[]⟩, .string ⟨#[]⟩]) 32 rfl Tryd.underlying23 info_fd rfl (by decide) (by decide) (.slice A5 l.length c5) l rr.field.1 [.string rr.field.1.1, .string rr.field.1.2] (fun k => w.heap.size ≤ k) (fun _ => False) rfl rfl ⟨_, _, rfl, rfl, rfl⟩ (fun _ h => h.elim) ?aF ?aO ?aB ?aS ?aL ?_
        case aF => intro k hk; have := T3.out.size; omega
        case aO => exact R3.out
        case aB => exact Below.refl _ _
        case aS => exact T3.out.size
        case aL => omega
        intro v1 w5 ho hb hg hat
        have I2 : Fact (∃ l2, (Rd.fields m r2) = (l2 ++ (Rd.fields j rr.field.2).1, (Rd.fields j rr.field.2).2) ∧ l2.length + j ≤ 65536 ∧ Kd.R fdK 53 w5 w.heap.size (fun k => w.heap.size ≤ k) v1 l2) := ⟨l ++ [rr.field.1], by rw [E.out, List.append_assoc]; rfl, by rw [List.length_append, List.length_singleton]; omega, ho⟩
        have H5 := Fact.mk (H3.out.base hb HP.out)
        have T5 : Fact (Turn p w w5) := ⟨T3.out.then_ (Only.of_base hb) (fun k hk => .inr hk)⟩
        clear ho hb hg hat H3 T3 R3 E HLe
        go_wp2_with fail
        exact ⟨⟨j, rr.field.2, by go_num, I2, H5, T5⟩, by simp [intOf]⟩
end
end Go.Proofs.YtllnleokjcimhaaDoor.En
