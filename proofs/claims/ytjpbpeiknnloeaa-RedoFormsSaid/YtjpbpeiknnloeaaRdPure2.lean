/-
What 'Open' comes to on a disk that a job left: all of it stands, or none. No program in sight.
-/
import Derived.Test.YtjpbpeiknnloeaaRdPure
import Derived.Lib.Bytes
namespace Go.Proofs.Ytjpbpeiknnloeaa.Dk
open Go.RowKit
set_option linter.unusedVariables false
set_option linter.unusedSimpArgs false

/-- Changes with all their bytes. -/
def padded (l : List Ch) : List Ch := l.map fun c => (c.1, pad c.2)
theorem pad_pad (b : List Int) : pad (pad b) = pad b := pad_of_full (pad_length b)
theorem padded_length (l : List Ch) : (padded l).length = l.length := List.length_map ..
theorem padded_flat (l : List Ch) : ((padded l).flatMap fun c => two c.1) = l.flatMap fun c => two c.1 := by
  unfold padded
  rw [List.flatMap_map]
theorem padded_places (l : List Ch) : placesOf (padded l) = placesOf l := by unfold placesOf; rw [padded_flat]
theorem padded_images (l : List Ch) : imagesOf (padded l) = imagesOf l := by
  rw [images_eq, images_eq, padded_places]
  congr 1
  unfold padded
  rw [List.map_map]
  exact List.map_congr_left fun c _ => pad_pad c.2
theorem padded_head (l : List Ch) : headOf (padded l) = headOf l := by
  unfold headOf sumAll
  rw [padded_images, padded_length]
theorem padded_wrote (l : List Ch) (f : Sect) : wrote (ats (padded l)) f = wrote (ats l) f := by
  induction l generalizing f with
  | nil => rfl
  | cons c r ih =>
    show wrote (((100 + c.1, pad c.2) : Ch) :: ats (padded r)) f = wrote (((100 + c.1, c.2) : Ch) :: ats r) f
    rw [wrote_cons, wrote_cons, ih, pad_pad]
theorem padded_MB (l : List Ch) (f : Sect) : MB (padded l) f = MB l f := by unfold MB Img; rw [padded_head, padded_images, padded_length]
theorem padded_MC (l : List Ch) (f : Sect) : MC (padded l) f = MC l f := by unfold MC Img; rw [padded_head, padded_images, padded_length, padded_wrote]
theorem padded_ME (l : List Ch) (f : Sect) : ME (padded l) f = ME l f := by unfold ME Img; rw [padded_head, padded_images, padded_length, padded_wrote]
theorem padded_inv {n : Nat} {l : List Ch} {f : Sect} {D : PD} (h : Inv n (padded l) f D) : Inv n l f D := by
  cases h with
  | a h => exact .a h
  | b h => exact .b (padded_MB l f ▸ h)
  | c h => exact .c (padded_MC l f ▸ h)
  | e h => exact .e (padded_ME l f ▸ h)
  | f h => exact .f (padded_wrote l f ▸ h)
section
variable {n : Nat} {l : List Ch} {f : Sect} {D : PD}
theorem padded_job (h : Job n l) : Job n (padded l) := by
  refine ⟨h.most, h.least, fun c hc => ?_, ?_, by rw [padded_length]; exact h.pos, by rw [padded_length]; exact h.le⟩
  · obtain ⟨d, hd, rfl⟩ := List.mem_map.1 hc
    obtain ⟨a, b, _⟩ := h.fit d hd
    exact ⟨a, b, by rw [pad_length]; exact Nat.le_refl _⟩
  · have e : (padded l).map (·.1) = l.map (·.1) := by unfold padded; rw [List.map_map]; rfl
    rw [e]; exact h.nodup
theorem Job.right (h : Job n l) : rightOf ((n : Int) - 100) l = true := by
  unfold rightOf
  apply decide_eq_true
  exact ⟨fun c hc => by obtain ⟨a, b, d⟩ := h.fit c hc; exact ⟨a, by omega, d⟩, h.nodup, h.pos, h.le⟩
theorem flat_get (l : List Ch) (r : List Int) : ∀ (k : Nat) (c : Ch), l[k]? = some c → ((l.flatMap fun c => two c.1) ++ r).getD (2 * k) 0 = c.1 / 256 % 256 ∧ ((l.flatMap fun c => two c.1) ++ r).getD (2 * k + 1) 0 = c.1 % 256 := by
  induction l with
  | nil => intro k c h; cases h
  | cons d l ih =>
    intro k c h
    cases k with
    | zero => obtain rfl := Option.some.inj h; exact ⟨rfl, rfl⟩
    | succ k =>
      obtain ⟨h1, h2⟩ := ih k c (by simpa using h)
      have e : ((d :: l).flatMap fun c => two c.1) ++ r = d.1 / 256 % 256 :: d.1 % 256 :: ((l.flatMap fun c => two c.1) ++ r) := rfl
      rw [e]
      refine ⟨?_, ?_⟩
      · rw [show 2 * (k + 1) = 2 * k + 1 + 1 from by omega, List.getD_cons_succ, List.getD_cons_succ]; exact h1
      · rw [show 2 * (k + 1) + 1 = 2 * k + 1 + 1 + 1 from by omega, List.getD_cons_succ, List.getD_cons_succ]; exact h2
theorem told_images (h : Job n l) : PD.told (imagesOf l) = padded l := by
  have hp := places_length h.le
  have hl := images_length l
  have e3 : (imagesOf l).getD 0 [] ++ (imagesOf l).getD 1 [] ++ (imagesOf l).getD 2 [] = placesOf l := by
    show (placesOf l).take 64 ++ ((placesOf l).take 128).drop 64 ++ ((placesOf l).take 192).drop 128 = _
    have a1 : (placesOf l).take 64 ++ ((placesOf l).take 128).drop 64 = (placesOf l).take 128 := by
      have := List.take_append_drop 64 ((placesOf l).take 128)
      rwa [List.take_take, show min 64 128 = 64 from rfl] at this
    rw [a1]
    have := List.take_append_drop 128 ((placesOf l).take 192)
    rw [List.take_take, show min 128 192 = 128 from rfl] at this
    rw [this, List.take_of_length_le (by omega)]
  unfold PD.told
  rw [e3, hl, show 3 + l.length - 3 = l.length from by omega]
  apply List.ext_getElem?
  intro k
  unfold padded
  rw [List.getElem?_map, List.getElem?_map]
  rcases Nat.lt_or_ge k l.length with hk | hk
  · have hx : l[k]? = some l[k] := List.getElem?_eq_getElem hk
    rw [List.getElem?_range hk, hx]
    simp only [Option.map_some]
    congr 1
    obtain ⟨g1, g2⟩ := flat_get l (List.replicate (192 - (l.flatMap fun c => two c.1).length) 0) k _ hx
    have e1 : PD.placed (placesOf l) k = l[k].1 := by
      unfold PD.placed placesOf
      dsimp only
      rw [g1, g2]
      obtain ⟨a, b, _⟩ := h.fit l[k] (List.getElem_mem hk)
      have := h.most
      omega
    have e2 : (imagesOf l).getD (3 + k) [] = pad l[k].2 := by
      rw [images_eq, List.getD_eq_getElem?_getD, List.getElem?_append_right (by show 3 ≤ _; omega)]
      rw [show 3 + k - List.length [(placesOf l).take 64, ((placesOf l).take 128).drop 64, ((placesOf l).take 192).drop 128] = k from by show 3 + k - 3 = k; omega, List.getElem?_map, hx]
      rfl
    rw [e1, e2]
  · rw [List.getElem?_eq_none (by simp; omega), List.getElem?_eq_none hk]
    rfl
theorem read_fine (hd : D.down = false) (hb : ∀ i, D.bad i = false) {i : Nat} (hi : i < D.n) : D.read (i : Int) = (D.now i, 0) := by
  unfold PD.read
  have ht : D.there (i : Int) = true := by rw [PD.there_iff]; omega
  rw [if_neg (by simp [hd]), if_neg (by rw [ht]; simp), Int.toNat_natCast, if_neg (by simp [hb])]
theorem now_set (h : D.Settled) (i : Nat) : D.now i = D.st i := by unfold PD.now; rw [h i]; rfl
theorem found_nought (hd : D.down = false) (hb : ∀ i, D.bad i = false) (hs : D.Settled) (hn : 0 < D.n) (h0 : D.st 0 = nought) : D.found = ([], 0) := by
  have hr := read_fine hd hb (i := 0) hn
  rw [now_set hs, h0] at hr
  have hr : D.read 0 = (nought, 0) := hr
  unfold PD.found
  rw [hr]
  dsimp only
  rw [if_neg (by decide), if_pos ?_]
  rw [Lib.strOfNums_toList]
  decide
theorem reads_all {k : Int} {rows : List (List Int)} (h : ∀ (i : Nat) b, rows[i]? = some b → D.read (k + i) = (b, 0)) : D.reads k rows.length = (rows, 0) := by
  induction rows generalizing k with
  | nil => rfl
  | cons b r ih =>
    have h0 := h 0 b rfl
    rw [show k + ((0 : Nat) : Int) = k from by omega] at h0
    have h1 := ih (k := k + 1) (fun i c hc => by
      have := h (i + 1) c (by simpa using hc)
      rwa [show k + ((i + 1 : Nat) : Int) = k + 1 + (i : Int) from by omega] at this)
    show (if (D.read k).2 = 0 then (if (D.reads (k + 1) r.length).2 = 0 then ((D.read k).1 :: (D.reads (k + 1) r.length).1, 0) else ([], (D.reads (k + 1) r.length).2)) else ([], (D.read k).2)) = _
    rw [h0, h1]; rfl
theorem head_form (l : List Ch) : ∃ t, headOf l = 82 :: 68 :: ((l.length : Int) / 256 % 256) :: ((l.length : Int) % 256) :: t := by
  unfold headOf
  dsimp only
  rw [pad_le (by simp [two])]
  exact ⟨_, rfl⟩
theorem found_job (hj : Job n l) (hd : D.down = false) (hb : ∀ i, D.bad i = false) (hs : D.Settled) (hn : D.n = n) (h0 : D.st 0 = headOf l) (hi : ∀ i, 1 ≤ i → i ≤ 3 + l.length → (imagesOf l)[i - 1]? = some (D.st i)) : D.found = (padded l, 0) := by
  have h100 := hj.least
  have hle := hj.le
  have hpos := hj.pos
  have hr := read_fine hd hb (i := 0) (by omega)
  rw [now_set hs, h0] at hr
  have hr : D.read 0 = (headOf l, 0) := hr
  obtain ⟨t, ht⟩ := head_form l
  have hrs : D.reads 1 (3 + l.length) = (imagesOf l, 0) := by
    rw [← images_length l]
    refine reads_all fun i b hb2 => ?_
    have hlt := (List.getElem?_eq_some_iff.1 hb2).1
    rw [images_length] at hlt
    have := read_fine hd hb (i := 1 + i) (by omega)
    rw [now_set hs] at this
    have h3 := hi (1 + i) (by omega) (by omega)
    rw [show 1 + i - 1 = i from by omega, hb2] at h3
    rw [show (1 : Int) + (i : Int) = ((1 + i : Nat) : Int) from by omega, this, ← Option.some.inj h3]
  have e2 : (headOf l).getD 2 0 * 256 + (headOf l).getD 3 0 = (l.length : Int) := by
    rw [ht]
    show (l.length : Int) / 256 % 256 * 256 + (l.length : Int) % 256 = _
    omega
  have e1 : (strOfNums ((headOf l).take 2)).toList = [82, 68] := by
    rw [ht, Lib.strOfNums_toList]; rfl
  unfold PD.found
  rw [hr]
  dsimp only
  rw [if_neg (by decide), if_neg (by rw [e1]; decide), e2, if_neg (by omega), Int.toNat_natCast, hrs]
  dsimp only
  rw [if_neg (by decide), told_images hj, if_neg (by rw [hn, (padded_job hj).right]; decide), padded_head, if_neg (by simp)]
theorem ends_padded {r : Int × PD} (h : Ends n (padded l) f D r) : Ends n l f D r := ⟨padded_inv h.inv, fun e => padded_wrote l f ▸ h.done e, h.ans, h.up⟩
/-- What 'Open' comes to. -/
structure Opens_ (n : Nat) (l : List Ch) (f : Sect) (D : PD) (r : Int × PD) : Prop where
  inv : Inv n l f r.2
  done : r.1 = 0 → Rests n f r.2 ∨ Rests n (wrote (ats l) f) r.2
  ans : r.1 = 0 ∨ r.1 = 40
  up : D.Up → r.1 = 0 ∧ r.2.Up
theorem open_rests (h : Rests n f D) (hn : 0 < n) (hd : D.down = false) : D.open_ = (0, D) := by
  have e := found_nought hd h.fine h.set (by rw [h.size]; exact hn) h.head
  unfold PD.open_
  dsimp only
  rw [e]; rfl
theorem head_ne (l : List Ch) : headOf l ≠ nought := by
  obtain ⟨t, ht⟩ := head_form l
  rw [ht]
  intro h
  have : (82 : Int) = 0 := by
    have e : nought = 0 :: List.replicate 63 0 := rfl
    rw [e] at h
    exact (List.cons.inj h).1
  exact absurd this (by decide)
theorem open_opens (hj : Job n l) (hs : D.Settled) (hd : D.down = false) (h : Inv n l f D) : Opens_ n l f D D.open_ := by
  have hn : 0 < n := by have := hj.least; omega
  have rest : ∀ g, Rests n g D → (g = f ∨ g = wrote (ats l) f) → Opens_ n l f D D.open_ := fun g hg hc => by
    rw [open_rests hg hn hd]
    refine ⟨h, fun _ => ?_, .inl rfl, fun hu => ⟨rfl, hu⟩⟩
    rcases hc with rfl | rfl
    · exact .inl hg
    · exact .inr hg
  have imgs : ∀ {M : Nat → List Int → Prop}, D.Mays n M → (∀ i b, M i b → Img l i b) → ∀ i, 1 ≤ i → i ≤ 3 + l.length → (imagesOf l)[i - 1]? = some (D.st i) := fun hm hi i a b => hi i _ (hm.st i) a b
  have low : ∀ {M : Nat → List Int → Prop}, D.Mays n M → D.st 0 = nought → (∀ i b, M i b → Img l i b) → ∀ i, i < 4 → InB (D.st i) := fun hm h0 hi i h4 => by
    by_cases e : i = 0
    · subst e; rw [h0]; exact nought_bytes
    · exact images_low (i := i - 1) (by omega) (imgs hm hi i (by omega) (by omega))
  have fin : D.Mays n (MC l f) → Opens_ n l f D D.open_ := fun hm => by
    have e := found_job hj hd hm.fine hs hm.size ((hm.st 0).1 rfl) (imgs hm fun i b hb => hb.2.1)
    have hne : padded l ≠ [] := fun h0 => by have := hj.pos; rw [← padded_length, h0] at this; exact absurd this (by decide)
    have e2 : D.open_ = D.finish (padded l) := by
      unfold PD.open_
      dsimp only
      rw [e]
      dsimp only
      rw [if_neg (by decide), if_neg hne]
    rw [e2]
    have h5 := ends_padded (finish_ends (padded_job hj) hs (padded_MC l f ▸ hm))
    exact ⟨h5.inv, fun h0 => .inr (h5.done h0), h5.ans, h5.up⟩
  cases h with
  | a h => exact rest f (Rests.of h hs) (.inl rfl)
  | f h => exact rest _ (Rests.of h hs) (.inr rfl)
  | c h => exact fin h
  | b h =>
    rcases (h.st 0).1 rfl with h0 | h0
    · exact rest f ⟨h.good, h.size, h.fine, hs, h0, low h h0 fun i b hb => hb.2.1, fun i hi => (h.st i).2.2 hi⟩ (.inl rfl)
    · refine fin ⟨h.good, h.size, h.fine, fun i b hb => ?_⟩
      obtain ⟨m1, m2, m3⟩ := h.may i b hb
      refine ⟨fun e => ?_, m2, fun hi => .inl (m3 hi)⟩
      subst e
      rcases hb with rfl | hb
      · exact h0
      · rw [hs 0] at hb; cases hb
  | e h =>
    rcases (h.st 0).1 rfl with h0 | h0
    · exact rest _ ⟨h.good, h.size, h.fine, hs, h0, low h h0 fun i b hb => hb.2.1, fun i hi => (h.st i).2.2 hi⟩ (.inr rfl)
    · refine fin ⟨h.good, h.size, h.fine, fun i b hb => ?_⟩
      obtain ⟨m1, m2, m3⟩ := h.may i b hb
      refine ⟨fun e => ?_, m2, fun hi => .inr (m3 hi)⟩
      subst e
      rcases hb with rfl | hb
      · exact h0
      · rw [hs 0] at hb; cases hb
theorem crash_settled (D : PD) (keep : List Bool) : (D.crash keep).Settled := fun _ => rfl
/-- A disk that a job left has bytes in its first sectors, when nothing is pending. -/
theorem Inv.low (h : Inv n l f D) (hs : D.Settled) : D.Low := by
  intro i hi
  rw [now_set hs]
  have im : ∀ {M : Nat → List Int → Prop}, D.Mays n M → (∀ b, M 0 b → b = nought ∨ b = headOf l) → (∀ i b, M i b → Img l i b) → InB (D.st i) := fun hm h0 hI => by
    by_cases e : i = 0
    · subst e
      rcases h0 _ (hm.st 0) with h1 | h1
      · rw [h1]; exact nought_bytes
      · rw [h1]; exact head_bytes l
    · exact images_low (i := i - 1) (by omega) (hI i _ (hm.st i) (by omega) (by omega))
  cases h with
  | a h => exact (h.st i).2.1 hi
  | f h => exact (h.st i).2.1 hi
  | b h => exact im h (fun b hb => hb.1 rfl) (fun i b hb => hb.2.1)
  | c h => exact im h (fun b hb => .inr (hb.1 rfl)) (fun i b hb => hb.2.1)
  | e h => exact im h (fun b hb => hb.1 rfl) (fun i b hb => hb.2.1)
theorem Inv.size (h : Inv n l f D) : D.n = n := by
  cases h with
  | a h => exact h.size
  | f h => exact h.size
  | b h => exact h.size
  | c h => exact h.size
  | e h => exact h.size
theorem Rests.lows (h : Rests n f D) : D.Low := fun i hi => by rw [now_set h.set]; exact h.low i hi
theorem Rests.rread (h : Rests n f D) (hd : D.down = false) {m : Nat} (hn : n = 100 + m) {i : Nat} (hi : i < m) : D.rread false (i : Int) = (f (100 + i), 0) ∧ (f (100 + i)).length = 64 := by
  have e : D.rread false (i : Int) = D.read (100 + (i : Int)) := by
    unfold PD.rread
    rw [if_neg (by rw [h.size]; omega), if_neg (by decide)]
  rw [e, show (100 : Int) + (i : Int) = ((100 + i : Nat) : Int) from by omega, read_fine hd h.fine (by rw [h.size]; omega), now_set h.set, h.data _ (by omega)]
  exact ⟨rfl, by rw [← h.data _ (by omega)]; exact h.good.full _⟩
end
end Go.Proofs.Ytjpbpeiknnloeaa.Dk
