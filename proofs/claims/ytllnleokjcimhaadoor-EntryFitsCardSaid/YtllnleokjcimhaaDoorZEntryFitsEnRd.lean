import Derived.Test.YtllnleokjcimhaaDoorZEntryFitsEnBase
import Derived.Test.YtllnleokjcimhaaDoorZEntryFitsEnPlain
/-
What the reader's small functions do: bytes, numbers, texts.
-/
namespace Go.Proofs.YtllnleokjcimhaaDoor.En
open Go.RowKit Go.Maps Go.Proofs.YtllnleokjcimhaaDoorW.PrintWords Go.Proofs.YtllnleokjcimhaaDoorW.PrintLast Go.Proofs.YtllnleokjcimhaaDoorW.PrintMore
set_option linter.unusedVariables false
set_option linter.unusedSimpArgs false
/-- A reader in memory: what is left lies where it lay. -/
structure IsRd (w0 w : World) (p : Nat) (r : Rd) : Prop where
  at_ : ∃ A c, w.heap[p]? = some (.cells #[.slice A r.b.length c, .bool r.bad] 64 (0, 0)) ∧ r.b.length ≤ c ∧ ReadB w0 A r.b.length r.b
  rng : ∀ x ∈ r.b, 0 ≤ x ∧ x < 256
  bl : Below w0.heap.size w0 w
  lp : w0.heap.size ≤ p
/-- What a call on the reader leaves. -/
abbrev Turn (p : Nat) (w w' : World) : Prop := Only (fun k => k = p) w w'
section
variable {w0 w w' : World} {p : Nat} {r : Rd}
theorem IsRd.lt (h : IsRd w0 w p r) : p < w.heap.size := by obtain ⟨A, c, h1, _⟩ := h.at_; exact (Array.getElem?_eq_some_iff.1 h1).1
theorem IsRd.new (h : IsRd w0 w p r) (hb : Below w.heap.size w w') : IsRd w0 w' p r := by
  have hl := h.lt
  obtain ⟨A, c, h1, h2⟩ := h.at_
  exact ⟨⟨A, c, (hb.block p hl).trans h1, h2⟩, h.rng, next_new h.bl hb, h.lp⟩
theorem IsRd.other (h : IsRd w0 w p r) {S : Nat → Prop} (ho : Only S w w') (hs : ∀ k, S k → w0.heap.size ≤ k ∧ k ≠ p) : IsRd w0 w' p r := by
  have hl := h.lt
  obtain ⟨A, c, h1, h2⟩ := h.at_
  exact ⟨⟨A, c, (ho.block p hl (fun hk => (hs p hk).2 rfl)).trans h1, h2⟩, h.rng, next_below h.bl ho (fun k hk => (hs k hk).1), h.lp⟩
theorem Turn.below (h : IsRd w0 w p r) (ht : Turn p w w') : Below w0.heap.size w0 w' := next_below h.bl ht (fun k hk => hk ▸ h.lp)
theorem IsRd.set (h : IsRd w0 w p r) (A : Option Addr) (n c : Nat) (bad : Bool) (b : List Int) (hn : n = b.length) (hc : n ≤ c) (hr : ReadB w0 A n b) (hb : ∀ x ∈ b, 0 ≤ x ∧ x < 256) :
    IsRd w0 ((w.setCell ⟨p, 1, none⟩ (.bool bad)).setCell ⟨p, 0, none⟩ (.slice A n c)) p ⟨b, bad⟩ := by
  subst hn
  obtain ⟨A0, c0, h1, h2⟩ := h.at_
  refine ⟨⟨A, c, ?_, hc, hr⟩, hb, (h.bl.setCell h.lp _).setCell h.lp _, h.lp⟩
  rw [heap_setCell_same _ p 0 _ _ _ (heap_setCell_same w p 1 _ _ _ h1)]; rfl
theorem IsRd.setBad (h : IsRd w0 w p r) (bad : Bool) : IsRd w0 (w.setCell ⟨p, 1, none⟩ (.bool bad)) p ⟨r.b, bad⟩ := by
  obtain ⟨A0, c0, h1, h2⟩ := h.at_
  refine ⟨⟨A0, c0, ?_, h2⟩, h.rng, h.bl.setCell h.lp _, h.lp⟩
  rw [heap_setCell_same w p 1 _ _ _ h1]; rfl
set_option maxHeartbeats 1000000 in
set_option maxRecDepth 100000 in
theorem bytes_any (h : IsRd w0 w p r) (n : Nat) :
    Calls Tryd.prog 53 #[.pointer (some ⟨p, 0, none⟩), .int .i64 (n : Int)] w fun e w' => ∃ A c, e = .returned (.slice A (r.bytes n).1.length c) ∧ (r.bytes n).1.length ≤ c ∧ ReadB w0 A (r.bytes n).1.length (r.bytes n).1 ∧ (∀ x ∈ (r.bytes n).1, 0 ≤ x ∧ x < 256) ∧ IsRd w0 w' p (r.bytes n).2 ∧ Turn p w w' := by
  obtain ⟨A, c, h1, h2, h3⟩ := h.at_
  have c0 : w.cell? ⟨p, 0, none⟩ = some (.slice A r.b.length c) := by rw [cell_of_row _ _ _ _ _ _ h1]; rfl
  have c1 : w.cell? ⟨p, 1, none⟩ = some (.bool r.bad) := by rw [cell_of_row _ _ _ _ _ _ h1]; rfl
  have f0 : w.frozen? ⟨p, 0, none⟩ = false := frozen_of_row _ _ _ _ _ h1
  have f1 : w.frozen? ⟨p, 1, none⟩ = false := frozen_of_row _ _ _ _ _ h1
  unfold Rd.bytes
  by_cases hb : r.bad = true ∨ r.b.length < n
  · rw [if_pos hb]
    have H := Fact.mk (h.setBad true)
    rcases hb with hb | hb
    · rw [hb] at c1
      clear h h1 h2 h3 hb
      generalize r.b.length = bl at *
      go_enter Tryd.func53, Tryd.ntmps53
      go_wp2
      go_ret
      exact ⟨none, 0, rfl, Nat.le_refl _, reads_nil _, (fun x hx => by cases hx), H.out, Only.setCell (S := fun k => k = p) w rfl _⟩
    · have hb2 : (r.b.length : Int) < (n : Int) := by omega
      clear h h1 h2 h3 hb
      generalize r.b.length = bl at *
      cases hbad : r.bad with
      | true =>
        rw [hbad] at c1
        go_enter Tryd.func53, Tryd.ntmps53
        go_wp2
        go_ret
        exact ⟨none, 0, rfl, Nat.le_refl _, reads_nil _, (fun x hx => by cases hx), H.out, Only.setCell (S := fun k => k = p) w rfl _⟩
      | false =>
        rw [hbad] at c1
        go_enter Tryd.func53, Tryd.ntmps53
        go_wp2
        go_ret
        exact ⟨none, 0, rfl, Nat.le_refl _, reads_nil _, (fun x hx => by cases hx), H.out, Only.setCell (S := fun k => k = p) w rfl _⟩
  · rw [if_neg hb]
    have hbad : r.bad = false := by cases hq : r.bad with
      | false => rfl
      | true => exact absurd (.inl hq) hb
    have hn : n ≤ r.b.length := Nat.le_of_not_lt (fun h => hb (.inr h))
    rw [hbad] at c1
    have hn2 : ¬ ((r.b.length : Int) < (n : Int)) := by omega
    have hnc : n ≤ c := by omega
    have htl : (r.b.take n).length = n := by rw [List.length_take]; omega
    have hdl : (r.b.drop n).length = r.b.length - n := List.length_drop
    have H := Fact.mk (h.set (if c = n then A else A.map (·.add (n * 1))) (r.b.length - n) (c - n) false (r.b.drop n) hdl.symm (by omega) (by
      have := Kd.C_drop (m := n) h3 hn h2
      rw [hdl] at this; exact this) (fun x hx => h.rng x (List.mem_of_mem_drop hx)))
    have HT := Fact.mk (Kd.C_take h3 hn)
    have HR := Fact.mk h.rng
    rw [htl] at HT ⊢
    have k1 := fun W => cut_to W A r.b.length c n hnc
    have k2 := fun W => cut_from W A r.b.length c n hn
    clear h h1 h2 h3 hb hbad htl hdl
    generalize hAd : (if c = n then A else A.map (·.add (n * 1))) = Ad at *
    generalize r.b.length = bl at *
    go_enter Tryd.func53, Tryd.ntmps53
    go_wp2
    go_ret
    exact ⟨A, c, rfl, hnc, HT.out, (fun x hx => HR.out x (List.mem_of_mem_take hx)), H.out, (Only.setCell (S := fun k => k = p) w rfl _).trans (Only.setCell (S := fun k => k = p) _ rfl _)⟩
theorem bytes_len (r : Rd) (n : Nat) : (r.bytes n).1.length ≤ n := by
  unfold Rd.bytes
  split
  · simp
  · simp; omega
theorem byte_cell {w : World} {A : Option Addr} {n : Nat} {l : List Int} (h : ReadB w A n l) {j : Nat} (hj : j < n) : ∃ ad, A = some ad ∧ w.cell? (ad.add j) = some (.int .u8 (l.getD j 0)) := by
  have hl : l.length = n := h.1
  obtain ⟨ad, e, hc⟩ := h.2.2 (by omega)
  obtain ⟨c, h1, h2, h3⟩ := hc j l[j] (List.getElem?_eq_getElem (by omega))
  refine ⟨ad, e, ?_⟩
  have h4 : l.getD j 0 = l[j] := by rw [List.getD_eq_getElem?_getD, List.getElem?_eq_getElem (by omega)]; rfl
  have := h3 0 (.int .u8 l[j]) (by rw [show c = [.int .u8 l[j]] from h2]; rfl)
  rw [h4]
  simpa [Kd.int, Kd.scalar] using this
theorem or_low (x y : Int) (hx : 0 ≤ x ∧ x < 1099511627776) (hy : 0 ≤ y ∧ y < 256) : bits BinOp.or IntKind.i64 (x * 256) y = x * 256 + y := by
  obtain ⟨m, rfl⟩ := Int.eq_ofNat_of_zero_le hx.1
  obtain ⟨n, rfl⟩ := Int.eq_ofNat_of_zero_le hy.1
  have e : ((m : Int) * 256) = ((m * 256 : Nat) : Int) := by omega
  have h1 : m * 256 ||| n = m * 256 + n := by
    rw [show m * 256 = m <<< 8 from by rw [Nat.shiftLeft_eq], ← Nat.shiftLeft_add_eq_or_of_lt (by omega)]
  rw [e]
  show IntKind.i64.wrap ((BitVec.ofInt 64 ((m * 256 : Nat) : Int) ||| BitVec.ofInt 64 (n : Int)).toNat : Int) = _
  have e1 : ∀ a : Nat, a < 18446744073709551616 → (BitVec.ofInt 64 (a : Int)).toNat = a := fun a ha => by
    rw [BitVec.ofInt_natCast, BitVec.toNat_ofNat]; exact Nat.mod_eq_of_lt (by omega)
  rw [BitVec.toNat_or, e1 _ (by omega), e1 _ (by omega), h1, IntWalk.i64_in _ (by omega)]
  omega
theorem pow256 (j : Nat) (hj : j ≤ 6) : (256 : Int) ^ j ≤ 281474976710656 := by
  have : j = 0 ∨ j = 1 ∨ j = 2 ∨ j = 3 ∨ j = 4 ∨ j = 5 ∨ j = 6 := by omega
  rcases this with rfl | rfl | rfl | rfl | rfl | rfl | rfl <;> decide
theorem pow256' (j : Nat) (hj : j ≤ 5) : (256 : Int) ^ j ≤ 1099511627776 := by
  have : j = 0 ∨ j = 1 ∨ j = 2 ∨ j = 3 ∨ j = 4 ∨ j = 5 := by omega
  rcases this with rfl | rfl | rfl | rfl | rfl | rfl <;> decide
theorem big_step (l : List Int) {j : Nat} (hj : j < l.length) : big (l.take (j + 1)) = big (l.take j) * 256 + l.getD j 0 := by
  have h4 : l.getD j 0 = l[j] := by rw [List.getD_eq_getElem?_getD, List.getElem?_eq_getElem hj]; rfl
  rw [List.take_succ_eq_append_getElem hj, h4]
  unfold big
  rw [List.foldl_append]; rfl
set_option maxHeartbeats 1000000 in
set_option maxRecDepth 100000 in
theorem get_any (h : IsRd w0 w p r) (n : Nat) (hn : n ≤ 6) :
    Calls Tryd.prog 36 #[.pointer (some ⟨p, 0, none⟩), .int .i64 (n : Int)] w fun e w' => e = .returned (.int .i64 (r.get n).1) ∧ 0 ≤ (r.get n).1 ∧ (r.get n).1 < 281474976710656 ∧ IsRd w0 w' p (r.get n).2 ∧ Turn p w w' := by
  have HB := Fact.mk (bytes_any h n)
  have HL := Fact.mk (bytes_len r n)
  clear h
  unfold Rd.get
  generalize (r.bytes n).1 = x at *
  generalize (r.bytes n).2 = r2 at *
  go_enter Tryd.func36, Tryd.ntmps36
  go_wp2_with fail
  refine HB.out.mono ?_
  rintro e w1 ⟨A, c, rfl, hc, hr, hrng, h1, t1⟩
  have HR := Fact.mk (Kd.C_below hr h1.bl)
  have HG := Fact.mk hrng
  have H1 := Fact.mk (And.intro h1 t1)
  clear hr hrng h1 t1 HB
  have hlen : x.length ≤ 6 := Nat.le_trans HL.out hn
  go_wp2_with fail
  go_loopw [5, 12] (fun v5 v12 wr => ∃ j : Nat, v12 = .int .i64 (j : Int) ∧ v5 = .int .i64 (big (x.take j)) ∧ j ≤ x.length ∧ wr = w1) (fun _ v _ => x.length - (intOf v).toNat)
  case atStart => exact ⟨0, rfl, rfl, Nat.zero_le _, rfl⟩
  case round =>
    obtain ⟨j, rfl, rfl, hj, rfl⟩ := hrel
    have hbd := big_bound (x.take j) (fun y hy => HG.out y (List.mem_of_mem_take hy))
    rw [show (x.take j).length = j from by rw [List.length_take]; omega] at hbd
    by_cases hlt : j < x.length
    · have hlt2 : (j : Int) < (x.length : Int) := by omega
      obtain ⟨ad, rfl, hcell⟩ := byte_cell HR.out hlt
      have hst := big_step x hlt
      have hx : 0 ≤ x.getD j 0 ∧ x.getD j 0 < 256 := by
        have h4 : x.getD j 0 = x[j] := by rw [List.getD_eq_getElem?_getD, List.getElem?_eq_getElem hlt]; rfl
        rw [h4]; exact HG.out _ (List.getElem_mem hlt)
      have HS := Fact.mk hst
      clear hst
      generalize x.getD j 0 = y at *
      generalize hB : big (x.take j) = bj at *
      have hbj : bj < 1099511627776 := by
        have h5 := pow256' j (by omega)
        omega
      have hor := or_low bj y ⟨hbd.1, hbj⟩ hx
      have hbj0 := hbd.1
      clear hbd hB
      go_wp2_with fail
      exact ⟨⟨j + 1, by go_num, by rw [HS.out], by omega, trivial⟩, by simp [intOf]; omega⟩
    · have he : j = x.length := by omega
      subst he
      have hlt2 : ¬ ((x.length : Int) < (x.length : Int)) := by omega
      have hp6 := pow256 x.length hlen
      rw [List.take_length] at hbd ⊢
      have hb1 := hbd.1
      have hb2 : big x < 281474976710656 := by omega
      clear hbd hp6
      go_wp2_with fail
      go_ret
      first | exact ⟨rfl, H1.out⟩ | exact ⟨rfl, hb1, hb2, H1.out⟩
theorem bytes_rng {r : Rd} (h : ∀ x ∈ r.b, 0 ≤ x ∧ x < 256) (n : Nat) : ∀ x ∈ (r.bytes n).1, 0 ≤ x ∧ x < 256 := by
  unfold Rd.bytes
  split
  · intro x hx; cases hx
  · intro x hx; exact h x (List.mem_of_mem_take hx)
theorem get_nonneg {r : Rd} (h : ∀ x ∈ r.b, 0 ≤ x ∧ x < 256) (n : Nat) : 0 ≤ (r.get n).1 := (big_bound _ (bytes_rng h n)).1
set_option maxRecDepth 100000 in
theorem text_any (h : IsRd w0 w p r) :
    Calls Tryd.prog 54 #[.pointer (some ⟨p, 0, none⟩)] w fun e w' => e = .returned (.string r.text.1) ∧ IsRd w0 w' p r.text.2 ∧ Turn p w w' := by
  have HG := Fact.mk (get_any h 2 (by omega))
  obtain ⟨m, hm⟩ := Int.eq_ofNat_of_zero_le (get_nonneg h.rng 2)
  clear h
  unfold Rd.text Rd.textB
  rw [hm] at HG ⊢
  rw [Int.toNat_natCast]
  clear hm
  generalize (r.get 2).2 = r2 at *
  go_enter Tryd.func54, Tryd.ntmps54
  go_wp2_with fail
  refine HG.out.mono ?_
  rintro e w1 ⟨rfl, hn0, hn1, h1, t1⟩
  have H1 := Fact.mk h1
  have T1 := Fact.mk t1
  clear h1 t1 HG hn0
  go_wp2_with fail
  refine (bytes_any H1.out m).mono ?_
  rintro e w2 ⟨A, c, rfl, hc, hr, hrng, h2, t2⟩
  have H2 := Fact.mk h2
  have T2 := Fact.mk (T1.out.trans t2)
  have hcv := conv_read (c := c) (Kd.C_below hr h2.bl)
  clear hr hrng h2 t2 hc H1 T1
  go_wp2_with fail
  go_ret
  exact ⟨rfl, H2.out, T2.out⟩
set_option maxRecDepth 100000 in
theorem field_any (h : IsRd w0 w p r) :
    Calls Tryd.prog 57 #[.pointer (some ⟨p, 0, none⟩)] w fun e w' => e = .returned (.agg #[.string r.field.1.1, .string r.field.1.2]) ∧ IsRd w0 w' p r.field.2 ∧ Turn p w w' := by
  have HH := Fact.mk h
  unfold Rd.field
  clear h
  go_enter Tryd.func57, Tryd.ntmps57
  go_wp2_with fail
  have H0 := Fact.mk (HH.out.new ((Below.refl _ _).alloc (Nat.le_refl _) (.cells #[.string ⟨#[]⟩, .string ⟨#[]⟩] 53)))
  have T0 : Fact (Turn p w (w.alloc (.cells #[.string ⟨#[]⟩, .string ⟨#[]⟩] 53))) := ⟨Only.alloc _ _ _⟩
  have N0 : Fact ((w.alloc (.cells #[.string ⟨#[]⟩, .string ⟨#[]⟩] 53)).heap[w.heap.size]? = some (.cells #[.string ⟨#[]⟩, .string ⟨#[]⟩] 53 (0, 0)) ∧ w.heap.size ≠ p ∧ w.heap.size < (w.alloc (.cells #[.string ⟨#[]⟩, .string ⟨#[]⟩] 53)).heap.size) := ⟨heap_alloc_new w _, by have := HH.out.lt; omega, by simp⟩
  have L0 : Fact (w0.heap.size ≤ w.heap.size) := ⟨HH.out.bl.size⟩
  clear HH
  generalize (w.alloc (.cells #[.string ⟨#[]⟩, .string ⟨#[]⟩] 53)) = wa at *
  refine (text_any H0.out).mono ?_
  rintro e w1 ⟨rfl, h1, t1⟩
  have H1 := Fact.mk h1
  have T1 := Fact.mk (T0.out.trans t1)
  have N1 : Fact (w1.heap[w.heap.size]? = some (.cells #[.string ⟨#[]⟩, .string ⟨#[]⟩] 53 (0, 0)) ∧ w.heap.size ≠ p ∧ w.heap.size < w1.heap.size) := ⟨(t1.block _ N0.out.2.2 N0.out.2.1).trans N0.out.1, N0.out.2.1, Nat.lt_of_lt_of_le N0.out.2.2 t1.size⟩
  clear h1 t1 H0 T0 N0
  clear wa
  go_wp2_with fail
  refine (text_any H1.out).mono ?_
  rintro e w2 ⟨rfl, h2, t2⟩
  have H2 := Fact.mk h2
  have T2 := Fact.mk (T1.out.trans t2)
  have N2 : Fact (w2.heap[w.heap.size]? = some (.cells #[.string ⟨#[]⟩, .string ⟨#[]⟩] 53 (0, 0)) ∧ w.heap.size ≠ p ∧ w.heap.size < w2.heap.size) := ⟨(t2.block _ N1.out.2.2 N1.out.2.1).trans N1.out.1, N1.out.2.1, Nat.lt_of_lt_of_le N1.out.2.2 t2.size⟩
  clear h2 t2 H1 T1 N1
  have q0 : w2.cell? ⟨w.heap.size, 0, none⟩ = some (.string ⟨#[]⟩) := by rw [cell_of_row _ _ _ _ _ _ N2.out.1]; rfl
  have q1 : w2.cell? ⟨w.heap.size, 1, none⟩ = some (.string ⟨#[]⟩) := by rw [cell_of_row _ _ _ _ _ _ N2.out.1]; rfl
  have g0 : w2.frozen? ⟨w.heap.size, 0, none⟩ = false := frozen_of_row _ _ _ _ _ N2.out.1
  have g1 : w2.frozen? ⟨w.heap.size, 1, none⟩ = false := frozen_of_row _ _ _ _ _ N2.out.1
  clear w1
  go_wp2_with fail
  have hh : ((w2.setCell ⟨w.heap.size, 0, none⟩ (.string r.text.1)).setCell ⟨w.heap.size, 1, none⟩ (.string r.text.2.text.1)).heap[w.heap.size]? = some (.cells #[.string r.text.1, .string r.text.2.text.1] 53 (0, 0)) := by
    rw [heap_setCell_same _ w.heap.size 1 _ _ _ (heap_setCell_same w2 w.heap.size 0 _ _ _ N2.out.1)]; rfl
  refine bodyPost_ret (results_cell_row rfl _ _ w.heap.size 53 #[.string r.text.1, .string r.text.2.text.1] (0, 0) _ rfl hh Tryd.underlying53 rfl (by kernel_rfl)) rfl ?_
  have hO : Only (fun k => k = w.heap.size) w2 ((w2.setCell ⟨w.heap.size, 0, none⟩ (.string r.text.1)).setCell ⟨w.heap.size, 1, none⟩ (.string r.text.2.text.1)) := (Only.setCell (S := fun k => k = w.heap.size) w2 rfl _).trans (Only.setCell (S := fun k => k = w.heap.size) _ rfl _)
  exact ⟨rfl, H2.out.other hO (fun k hk => by subst hk; exact ⟨L0.out, N2.out.2.1⟩), T2.out.then_ hO (fun k hk => .inr (by subst hk; exact Nat.le_refl _))⟩
end
end Go.Proofs.YtllnleokjcimhaaDoor.En
