/-
How far an armed disk comes in a job. No program in sight.
-/
import Derived.Test.YtjpbpeiknnloeaaRdPure2
namespace Go.Proofs.Ytjpbpeiknnloeaa.Dk
set_option linter.unusedVariables false
set_option linter.unusedSimpArgs false

section
variable {n : Nat} {l : List Ch} {f : Sect} {D : PD}
/-- The power is there for k calls. -/
structure PD.Left (D : PD) (k : Nat) : Prop where
  down : D.down = false
  left : D.left = (k : Int)
theorem PD.Left.call {k : Nat} (h : D.Left (k + 1)) : D.call.Left k := by
  obtain ⟨h1, h2⟩ := h
  have h3 : D.call.down = false := by simp only [PD.call, h2]; rw [decide_eq_false_iff_not]; omega
  exact ⟨h3, by simp only [PD.call, h2]; omega⟩
theorem PD.Left.call0 (h : D.Left 0) : D.call.down = true := by
  obtain ⟨h1, h2⟩ := h
  simp only [PD.call, h2]; rw [decide_eq_true_iff]; omega
theorem PD.Left.writes : ∀ {l : List Ch} {D : PD} {k : Nat}, D.Left k → (∀ c ∈ l, 0 ≤ c.1 ∧ c.1 < D.n ∧ c.2.length ≤ 64) → (l.length < k → (D.writes l).1 = 0 ∧ (D.writes l).2.Left (k - (l.length + 1))) ∧ (k ≤ l.length → (D.writes l).1 = 40)
  | [], D, k, h, hb => by
    refine ⟨fun hk => ?_, fun hk => ?_⟩
    · obtain ⟨m, rfl⟩ : ∃ m, k = m + 1 := ⟨k - 1, by simp at hk; omega⟩
      have h1 := h.call
      have e : D.writes [] = (0, D.call.stand fun _ => true) := by
        show D.flush = _
        unfold PD.flush
        rw [if_neg (by simp [h.down]), if_neg (by simp [h1.down])]
      rw [e]
      exact ⟨rfl, h1.down, by have := h1.left; show D.call.left = _; rw [this]; simp⟩
    · obtain rfl : k = 0 := by simpa using hk
      show D.flush.1 = 40
      unfold PD.flush
      rw [if_neg (by simp [h.down]), if_pos h.call0]
  | c :: r, D, k, h, hb => by
    obtain ⟨m1, m2, m3⟩ := hb c List.mem_cons_self
    have ht : D.there c.1 = true := (PD.there_iff D c.1).2 ⟨m1, m2⟩
    cases k with
    | zero =>
      refine ⟨fun hk => by simp at hk, fun _ => ?_⟩
      have e : D.write c.1 c.2 = (40, D.call) := by
        unfold PD.write
        rw [if_neg (by simp [h.down]), if_neg (by rw [ht]; simp; omega), if_pos h.call0]
      unfold PD.writes
      rw [e]; rfl
    | succ k =>
      have h1 := h.call
      have e : D.write c.1 c.2 = (0, D.call.put c.1.toNat (pad c.2)) := by
        unfold PD.write
        rw [if_neg (by simp [h.down]), if_neg (by rw [ht]; simp; omega), if_neg (by simp [h1.down])]
      have h2 : (D.call.put c.1.toNat (pad c.2)).Left k := ⟨h1.down, h1.left⟩
      obtain ⟨q1, q2⟩ := PD.Left.writes (l := r) h2 (fun x hx => hb x (List.mem_cons_of_mem _ hx))
      have e2 : D.writes (c :: r) = (D.call.put c.1.toNat (pad c.2)).writes r := by
        show (if (D.write c.1 c.2).1 = 0 then (D.write c.1 c.2).2.writes r else D.write c.1 c.2) = _
        rw [e]; rfl
      rw [e2]
      refine ⟨fun hk => ?_, fun hk => ?_⟩
      · have := q1 (by simp at hk; omega)
        rw [List.length_cons, show k + 1 - (r.length + 1 + 1) = k - (r.length + 1) from by omega]
        exact this
      · exact q2 (by simp at hk; omega)
theorem open_mc (hj : Job n l) (hs : D.Settled) (hd : D.down = false) (hm : D.Mays n (MC l f)) : Ends n l f D D.open_ := by
  have e := found_job hj hd hm.fine hs hm.size ((hm.st 0).1 rfl) (fun i a b => (hm.st i).2.1 a b)
  have hne : padded l ≠ [] := fun h0 => by have := hj.pos; rw [← padded_length, h0] at this; exact absurd this (by decide)
  have e2 : D.open_ = D.finish (padded l) := by
    unfold PD.open_
    dsimp only
    rw [e]
    dsimp only
    rw [if_neg (by decide), if_neg hne]
  rw [e2]
  exact ends_padded (finish_ends (padded_job hj) hs (padded_MC l f ▸ hm))
/-- Cut off right behind the head: the job stands. -/
theorem doJob_cut (hj : Job n l) (h : Rests n f D) (hk : D.Left (l.length + 6)) : (D.doJob l).1 = 40 ∧ (D.doJob l).2.Mays n (MC l f) := by
  have hil := images_length l
  have hle := hj.le
  have hn := hj.least
  have hb : ∀ c ∈ PD.numbered 1 (imagesOf l), (1 ≤ c.1 ∧ c.1 ≤ 99) ∧ c.2.length = 64 := fun c hc => by
    obtain ⟨i, h1, h2⟩ := numbered_mem hc
    have hi := (List.getElem?_eq_some_iff.1 h2).1
    refine ⟨by omega, images_full hj.le _ (List.mem_of_getElem? h2)⟩
  have hb1 : ∀ c ∈ PD.numbered 1 (imagesOf l), 0 ≤ c.1 ∧ c.1 < D.n ∧ c.2.length ≤ 64 := fun c hc => by
    obtain ⟨⟨a, b⟩, c⟩ := hb c hc
    rw [h.size]
    exact ⟨by omega, by omega, by omega⟩
  have h1 : (D.writes (PD.numbered 1 (imagesOf l))).2.Mays n (MA f) := h.mays.writes fun c hc => by
    obtain ⟨⟨a, b⟩, _⟩ := hb c hc
    refine ⟨fun e => by omega, fun e => ?_, fun e => by omega⟩
    obtain ⟨i, h1, h2⟩ := numbered_mem hc
    exact pad_bytes (images_low (by omega) h2)
  have hnl : (PD.numbered 1 (imagesOf l)).length = 3 + l.length := by
    rw [← hil]
    generalize imagesOf l = bs
    generalize (1 : Int) = k
    induction bs generalizing k with
    | nil => rfl
    | cons b r ih => simp [PD.numbered, ih]
  obtain ⟨hr, hL1⟩ := (PD.Left.writes hk hb1).1 (by omega)
  rw [hnl, show l.length + 6 - (3 + l.length + 1) = 2 from by omega] at hL1
  obtain ⟨k1, k2⟩ := PD.writes_ok hr
  have him : ∀ i, 1 ≤ i → i ≤ 3 + l.length → (imagesOf l)[i - 1]? = some ((D.writes (PD.numbered 1 (imagesOf l))).2.st i) := fun i h1 h2 => by
    have hx : (imagesOf l)[i - 1]? = some (imagesOf l)[i - 1] := List.getElem?_eq_getElem (by omega)
    rw [k2, hx, wrote_mem (numbered_nodup 1 _) (numbered_at hx) (by omega), PD_pad hj hx]
  have h2 : (D.writes (PD.numbered 1 (imagesOf l))).2.Mays n (MB l f) := ⟨h1.good, h1.size, h1.fine, fun i b hb => by
    obtain ⟨m1, _, m2⟩ := h1.may i b hb
    refine ⟨fun e => .inl (m1 e), fun a1 a2 => ?_, m2⟩
    rcases hb with rfl | hb
    · exact him i a1 a2
    · rw [k1 i] at hb; cases hb⟩
  have h3 : ((D.writes (PD.numbered 1 (imagesOf l))).2.writes [(0, headOf l)]).2.Mays n (MB l f) := h2.writes fun c hc => by
    obtain rfl := List.mem_singleton.1 hc
    exact ⟨fun _ => .inr (pad_of_full (head_length l)), fun a => by simp at a, fun a => by simp at a⟩
  have hb2 : ∀ c ∈ [((0, headOf l) : Ch)], 0 ≤ c.1 ∧ c.1 < (D.writes (PD.numbered 1 (imagesOf l))).2.n ∧ c.2.length ≤ 64 := fun c hc => by
    obtain rfl := List.mem_singleton.1 hc
    exact ⟨Int.le_refl _, by rw [h1.size]; show (0 : Int) < _; omega, by rw [head_length]; exact Nat.le_refl _⟩
  obtain ⟨hr2, hL2⟩ := (PD.Left.writes hL1 hb2).1 (by show 1 < 2; decide)
  obtain ⟨q1, q2⟩ := PD.writes_ok hr2
  have h4 : ((D.writes (PD.numbered 1 (imagesOf l))).2.writes [(0, headOf l)]).2.Mays n (MC l f) := ⟨h3.good, h3.size, h3.fine, fun i b hb => by
    obtain ⟨m1, m2, m3⟩ := h3.may i b hb
    refine ⟨fun e => ?_, m2, fun hi => .inl (m3 hi)⟩
    rcases hb with rfl | hb
    · rw [e, q2, wrote_mem (c := (0, headOf l)) (by simp) (by simp) rfl, pad_of_full (head_length l)]
    · rw [q1 i] at hb; cases hb⟩
  have e : D.doJob l = if (D.writes (PD.numbered 1 (imagesOf l))).1 = 0 then (if ((D.writes (PD.numbered 1 (imagesOf l))).2.writes [(0, headOf l)]).1 = 0 then ((D.writes (PD.numbered 1 (imagesOf l))).2.writes [(0, headOf l)]).2.finish l else (D.writes (PD.numbered 1 (imagesOf l))).2.writes [(0, headOf l)]) else D.writes (PD.numbered 1 (imagesOf l)) := rfl
  rw [if_pos hr, if_pos hr2] at e
  rw [e]
  generalize ((D.writes (PD.numbered 1 (imagesOf l))).2.writes [(0, headOf l)]).2 = D2 at *
  have hb3 : ∀ c ∈ ats l, 0 ≤ c.1 ∧ c.1 < D2.n ∧ c.2.length ≤ 64 := fun c hc => by
    obtain ⟨d, hd, h1, h2⟩ := ats_mem hc
    obtain ⟨a, b, c⟩ := hj.fit d hd
    rw [h4.size, h1, h2]
    exact ⟨by omega, by omega, c⟩
  have hr3 := (PD.Left.writes hL2 hb3).2 (by show 0 ≤ _; omega)
  have e3 : D2.finish l = D2.writes (ats l) := by
    show (if (D2.writes (ats l)).1 = 0 then _ else _) = _
    rw [if_neg (by rw [hr3]; decide)]; rfl
  rw [e3]
  refine ⟨hr3, h4.writes fun c hc => ?_⟩
  obtain ⟨d, hd, e1, e2⟩ := ats_mem hc
  have h0 := (hj.fit d hd).1
  rw [e1, e2]
  exact ⟨fun e => by omega, fun a b => by omega, fun _ => .inr (wrote_data hj hd).symm⟩
end
end Go.Proofs.Ytjpbpeiknnloeaa.Dk
