/-
Where the power may go in a job: in the end all of it stands, or none. No program in sight.
-/
import Derived.Test.YtjpbpeiknnloeaaRdModel
namespace Go.Proofs.Ytjpbpeiknnloeaa.Dk
set_option linter.unusedVariables false
set_option linter.unusedSimpArgs false

abbrev Sect := Nat → List Int
/-- What stands behind writes. -/
def wrote (l : List Ch) (f : Sect) : Sect := l.foldl (fun f c => fun j => if (j : Int) = c.1 then pad c.2 else f j) f
theorem wrote_cons (c : Ch) (l : List Ch) (f : Sect) : wrote (c :: l) f = wrote l (fun j => if (j : Int) = c.1 then pad c.2 else f j) := rfl
theorem wrote_other {l : List Ch} {f : Sect} {j : Nat} (h : ∀ c ∈ l, c.1 ≠ (j : Int)) : wrote l f j = f j := by
  induction l generalizing f with
  | nil => rfl
  | cons c r ih =>
    rw [wrote_cons, ih (fun x hx => h x (List.mem_cons_of_mem _ hx)), if_neg (fun e => h c List.mem_cons_self e.symm)]
theorem wrote_mem {l : List Ch} {f : Sect} (hn : (l.map (·.1)).Nodup) {c : Ch} (hc : c ∈ l) {j : Nat} (hj : c.1 = (j : Int)) : wrote l f j = pad c.2 := by
  induction l generalizing f with
  | nil => cases hc
  | cons d r ih =>
    rw [List.map_cons, List.nodup_cons] at hn
    rw [wrote_cons]
    rcases List.mem_cons.1 hc with rfl | hc
    · rw [wrote_other (fun x hx e => hn.1 (List.mem_map.2 ⟨x, hx, by rw [e, hj]⟩)), if_pos hj.symm]
    · exact ih hn.2 hc
theorem wrote_len {l : List Ch} {f : Sect} (h : ∀ i, (f i).length = 64) (i : Nat) : (wrote l f i).length = 64 := by
  induction l generalizing f with
  | nil => exact h i
  | cons d r ih =>
    rw [wrote_cons]
    refine ih (fun j => ?_)
    split
    · exact pad_length _
    · exact h j
theorem wrote_congr {l : List Ch} {f g : Sect} {i : Nat} (h : f i = g i) : wrote l f i = wrote l g i := by
  induction l generalizing f g with
  | nil => exact h
  | cons d r ih =>
    rw [wrote_cons, wrote_cons]
    refine ih ?_
    show (if _ then _ else _) = (if _ then _ else _)
    rw [h]
namespace PD
/-- What a sector may have behind a crash. -/
def May (D : PD) (i : Nat) (b : List Int) : Prop := D.st i = b ∨ D.pe i = some b
theorem may_stand {D : PD} {keep : Nat → Bool} {i : Nat} {b : List Int} (h : (D.stand keep).May i b) : D.May i b := by
  rcases h with h | h
  · simp only [PD.stand] at h
    cases hp : D.pe i with
    | none => rw [hp] at h; exact .inl h
    | some c =>
      rw [hp] at h
      simp only at h
      split at h
      · exact .inr (by rw [hp, h])
      · exact .inl h
  · cases h
theorem may_put {D : PD} {k i : Nat} {c b : List Int} (h : (D.put k c).May i b) : D.May i b ∨ (i = k ∧ b = c) := by
  rcases h with h | h
  · exact .inl (.inl h)
  · simp only [PD.put] at h
    by_cases e : i = k
    · rw [if_pos e] at h; exact .inr ⟨e, (Option.some.inj h).symm⟩
    · rw [if_neg e] at h; exact .inl (.inr h)
def Settled (D : PD) : Prop := ∀ i, D.pe i = none
/-- A disk of n sectors, none bad, each with one of some rows. -/
structure Mays (n : Nat) (M : Nat → List Int → Prop) (D : PD) : Prop where
  good : D.Good
  size : D.n = n
  fine : ∀ i, D.bad i = false
  may : ∀ i b, D.May i b → M i b
section
variable {n : Nat} {M M2 : Nat → List Int → Prop} {D : PD}
theorem Mays.mono (h : Mays n M D) (hm : ∀ i b, M i b → M2 i b) : Mays n M2 D := ⟨h.good, h.size, h.fine, fun i b hb => hm i b (h.may i b hb)⟩
theorem Mays.call (h : Mays n M D) : Mays n M D.call := ⟨h.good.call, h.size, h.fine, h.may⟩
theorem Mays.arm (h : Mays n M D) {k : Int} (hk : k < 9223372036854775808) : Mays n M (D.arm k) := ⟨h.good.arm hk, h.size, h.fine, h.may⟩
theorem Mays.stand (h : Mays n M D) (keep : Nat → Bool) : Mays n M (D.stand keep) := ⟨h.good.stand keep, h.size, h.fine, fun i b hb => h.may i b (may_stand hb)⟩
theorem Mays.crash (h : Mays n M D) (keep : List Bool) : Mays n M (D.crash keep) := ⟨h.good.crash keep, h.size, h.fine, fun i b hb => h.may i b (may_stand (keep := fun k => keep.getD k false) hb)⟩
theorem Mays.put (h : Mays n M D) {k : Nat} (hk : k < n) {c : List Int} (hl : c.length = 64) (hc : M k c) : Mays n M (D.put k c) :=
  ⟨h.good.put (by rw [h.size]; exact hk) hl, h.size, h.fine, fun i b hb => by
    rcases may_put hb with hb | ⟨rfl, rfl⟩
    · exact h.may i b hb
    · exact hc⟩
theorem Mays.st (h : Mays n M D) (i : Nat) : M i (D.st i) := h.may i _ (.inl rfl)
theorem write_cases (D : PD) (i : Int) (b : List Int) : ((D.write i b).1 = 40 ∧ ((D.write i b).2 = D ∨ (D.write i b).2 = D.call)) ∨ ((D.write i b).1 = 11 ∧ (D.write i b).2 = D ∧ (D.there i = false ∨ 64 < b.length)) ∨ ((D.write i b).1 = 0 ∧ (D.write i b).2 = D.call.put i.toNat (pad b) ∧ 0 ≤ i ∧ i < D.n) := by
  unfold PD.write
  split
  · exact .inl ⟨rfl, .inl rfl⟩
  · split
    · rename_i h; exact .inr (.inl ⟨rfl, rfl, h⟩)
    · split
      · exact .inl ⟨rfl, .inr rfl⟩
      · rename_i h _
        refine .inr (.inr ⟨rfl, rfl, ?_⟩)
        apply (there_iff D i).1
        cases hq : D.there i with
        | true => rfl
        | false => exact absurd (.inl hq) h
theorem flush_cases (D : PD) : (D.flush.1 = 40 ∧ (D.flush.2 = D ∨ D.flush.2 = D.call)) ∨ (D.flush.1 = 0 ∧ D.flush.2 = D.call.stand fun _ => true) := by
  unfold PD.flush
  split
  · exact .inl ⟨rfl, .inl rfl⟩
  · split
    · exact .inl ⟨rfl, .inr rfl⟩
    · exact .inr ⟨rfl, rfl⟩
theorem Mays.write (h : Mays n M D) (i : Int) (b : List Int) (hm : M i.toNat (pad b)) : Mays n M (D.write i b).2 := by
  rcases write_cases D i b with ⟨_, h2 | h2⟩ | ⟨_, h2, _⟩ | ⟨_, h2, h3, h4⟩
  · rw [h2]; exact h
  · rw [h2]; exact h.call
  · rw [h2]; exact h
  · rw [h2]; exact h.call.put (by rw [h.size] at h4; omega) (pad_length b) hm
theorem Mays.flush (h : Mays n M D) : Mays n M D.flush.2 := by
  rcases flush_cases D with ⟨_, h2 | h2⟩ | ⟨_, h2⟩
  · rw [h2]; exact h
  · rw [h2]; exact h.call
  · rw [h2]; exact h.call.stand _
theorem Mays.writes {l : List Ch} : ∀ {D : PD}, Mays n M D → (∀ c ∈ l, M c.1.toNat (pad c.2)) → Mays n M (D.writes l).2 := by
  induction l with
  | nil => intro D h _; exact h.flush
  | cons c r ih =>
    intro D h hm
    have h1 := h.write c.1 c.2 (hm c List.mem_cons_self)
    unfold PD.writes
    split
    · exact ih h1 (fun x hx => hm x (List.mem_cons_of_mem _ hx))
    · exact h1
theorem writes_ans {l : List Ch} : ∀ {D : PD}, (∀ c ∈ l, 0 ≤ c.1 ∧ c.1 < D.n ∧ c.2.length ≤ 64) → (D.writes l).1 = 0 ∨ (D.writes l).1 = 40 := by
  induction l with
  | nil => intro D _; rcases flush_cases D with ⟨h, _⟩ | ⟨h, _⟩; exact .inr h; exact .inl h
  | cons c r ih =>
    intro D hm
    unfold PD.writes
    obtain ⟨m1, m2, m3⟩ := hm c List.mem_cons_self
    rcases write_cases D c.1 c.2 with ⟨h, _⟩ | ⟨_, _, h⟩ | ⟨h, h2, _⟩
    · rw [if_neg (by rw [h]; decide)]; exact .inr h
    · rcases h with h | h
      · rw [(there_iff D c.1).2 ⟨m1, m2⟩] at h; cases h
      · omega
    · rw [if_pos h, h2]
      exact ih (fun x hx => hm x (List.mem_cons_of_mem _ hx))
theorem writes_up {l : List Ch} : ∀ {D : PD}, Up D → (∀ c ∈ l, 0 ≤ c.1 ∧ c.1 < D.n ∧ c.2.length ≤ 64) → (D.writes l).1 = 0 ∧ Up (D.writes l).2 := by
  induction l with
  | nil => intro D h _; unfold PD.writes; rw [h.flush]; exact ⟨rfl, h.stand (fun _ => true)⟩
  | cons c r ih =>
    intro D h hm
    obtain ⟨m1, m2, m3⟩ := hm c List.mem_cons_self
    have e := h.write (i := c.1.toNat) (by omega) m3
    rw [Int.toNat_of_nonneg m1] at e
    unfold PD.writes
    rw [e]
    exact ih (h.put _ _) (fun x hx => hm x (List.mem_cons_of_mem _ hx))
theorem writes_ok {l : List Ch} : ∀ {D : PD}, (D.writes l).1 = 0 → Settled (D.writes l).2 ∧ ∀ i, (D.writes l).2.st i = wrote l D.now i := by
  induction l with
  | nil =>
    intro D h
    rcases flush_cases D with ⟨h1, _⟩ | ⟨_, h2⟩
    · have h : D.flush.1 = 0 := h
      rw [h1] at h; cases h
    · have h3 : (D.writes []).2 = D.call.stand fun _ => true := h2
      rw [h3]
      exact ⟨fun _ => rfl, fun i => (now_flush D i)⟩
  | cons c r ih =>
    intro D h
    unfold PD.writes at h ⊢
    rcases write_cases D c.1 c.2 with ⟨h1, _⟩ | ⟨h1, _⟩ | ⟨h1, h2, h3, h4⟩
    · rw [if_neg (by rw [h1]; decide)] at h; rw [h1] at h; cases h
    · rw [if_neg (by rw [h1]; decide)] at h; rw [h1] at h; cases h
    · rw [if_pos h1, h2] at h ⊢
      obtain ⟨k1, k2⟩ := ih h
      refine ⟨k1, fun i => ?_⟩
      rw [k2, wrote_cons]
      refine wrote_congr ?_
      show _ = (if _ then _ else _)
      by_cases e : (i : Int) = c.1
      · rw [if_pos e]
        have e2 : i = c.1.toNat := by omega
        rw [e2, now_put_same]
      · rw [if_neg e, now_put_other _ (fun e2 => e (by omega))]
        rfl
end
end PD
theorem zero_len : (List.replicate 64 (0 : Int)).length = 64 := List.length_replicate
abbrev nought : List Int := List.replicate 64 0
/-- The data sectors as changes of sectors. -/
def ats (l : List Ch) : List Ch := l.map fun c => (100 + c.1, c.2)
theorem ats_nodup {l : List Ch} (h : (l.map (·.1)).Nodup) : ((ats l).map (·.1)).Nodup := by
  unfold ats
  rw [List.map_map]
  have e : (fun x : Ch => x.1) ∘ (fun c : Ch => ((100 + c.1, c.2) : Ch)) = (fun x : Int => 100 + x) ∘ (fun c : Ch => c.1) := rfl
  rw [e, ← List.map_map]
  unfold List.Nodup at h ⊢
  rw [List.pairwise_map]
  exact h.imp fun hab e => hab (by omega)
abbrev InB (b : List Int) : Prop := ∀ x ∈ b, 0 ≤ x ∧ x < 256
theorem nought_bytes : InB nought := fun x hx => by rw [(List.mem_replicate.1 hx).2]; decide
theorem pad_bytes {b : List Int} (h : InB b) : InB (pad b) := fun x hx => by
  have := List.mem_of_mem_take hx
  rcases List.mem_append.1 this with h1 | h1
  · exact h x h1
  · exact nought_bytes x h1
/-- A disk at rest: no job stands, and the data sectors are f. -/
structure Rests (n : Nat) (f : Sect) (D : PD) : Prop where
  good : D.Good
  size : D.n = n
  fine : ∀ i, D.bad i = false
  set : D.Settled
  head : D.st 0 = nought
  low : ∀ i, i < 4 → InB (D.st i)
  data : ∀ i, 100 ≤ i → D.st i = f i
section
variable {n : Nat} {l l' : List Ch} {f g : Sect} {D : PD}
/-- What sectors may have before a job, while its head is written, while it is done, while its head goes, and behind it. -/
def MA (f : Sect) (i : Nat) (b : List Int) : Prop := (i = 0 → b = nought) ∧ (i < 4 → InB b) ∧ (100 ≤ i → b = f i)
def Img (l : List Ch) (i : Nat) (b : List Int) : Prop := 1 ≤ i → i ≤ 3 + l.length → (imagesOf l)[i - 1]? = some b
def MB (l : List Ch) (f : Sect) (i : Nat) (b : List Int) : Prop := (i = 0 → b = nought ∨ b = headOf l) ∧ Img l i b ∧ (100 ≤ i → b = f i)
def MC (l : List Ch) (f : Sect) (i : Nat) (b : List Int) : Prop := (i = 0 → b = headOf l) ∧ Img l i b ∧ (100 ≤ i → b = f i ∨ b = wrote (ats l) f i)
def ME (l : List Ch) (f : Sect) (i : Nat) (b : List Int) : Prop := (i = 0 → b = nought ∨ b = headOf l) ∧ Img l i b ∧ (100 ≤ i → b = wrote (ats l) f i)
/-- All that a job's disk may be. -/
inductive Inv (n : Nat) (l : List Ch) (f : Sect) (D : PD) : Prop
  | a (h : D.Mays n (MA f))
  | b (h : D.Mays n (MB l f))
  | c (h : D.Mays n (MC l f))
  | e (h : D.Mays n (ME l f))
  | f (h : D.Mays n (MA (wrote (ats l) f)))
theorem Inv.crash (h : Inv n l f D) (keep : List Bool) : Inv n l f (D.crash keep) := by
  cases h with
  | a h => exact .a (h.crash keep)
  | b h => exact .b (h.crash keep)
  | c h => exact .c (h.crash keep)
  | e h => exact .e (h.crash keep)
  | f h => exact .f (h.crash keep)
theorem Inv.arm (h : Inv n l f D) {k : Int} (hk : k < 9223372036854775808) : Inv n l f (D.arm k) := by
  cases h with
  | a h => exact .a (h.arm hk)
  | b h => exact .b (h.arm hk)
  | c h => exact .c (h.arm hk)
  | e h => exact .e (h.arm hk)
  | f h => exact .f (h.arm hk)
theorem Rests.mays (h : Rests n f D) : D.Mays n (MA f) := ⟨h.good, h.size, h.fine, fun i b hb => by
  rcases hb with rfl | hb
  · exact ⟨fun e => by rw [e]; exact h.head, h.low i, h.data i⟩
  · rw [h.set i] at hb; cases hb⟩
theorem Rests.of (h : D.Mays n (MA f)) (hs : D.Settled) : Rests n f D := ⟨h.good, h.size, h.fine, hs, (h.st 0).1 rfl, fun i hi => (h.st i).2.1 hi, fun i hi => (h.st i).2.2 hi⟩
theorem Rests.arm (h : Rests n f D) {k : Int} (hk : k < 9223372036854775808) : Rests n f (D.arm k) := ⟨h.good.arm hk, h.size, h.fine, h.set, h.head, h.low, h.data⟩
theorem Rests.new {n : Nat} (h1 : 1 ≤ n) (h2 : n ≤ 4096) : Rests n (fun _ => nought) (PD.new n) := ⟨PD.Good.new h1 h2, rfl, fun _ => rfl, fun _ => rfl, rfl, fun _ _ => nought_bytes, fun _ _ => rfl⟩
theorem images_eq (l : List Ch) : imagesOf l = [(placesOf l).take 64, ((placesOf l).take 128).drop 64, ((placesOf l).take 192).drop 128] ++ l.map fun c => pad c.2 := rfl
theorem places_length (h : l.length ≤ 96) : (placesOf l).length = 192 := by
  unfold placesOf
  have e : (l.flatMap fun c => two c.1).length = 2 * l.length := by
    clear h
    induction l with
    | nil => rfl
    | cons c r ih => rw [List.flatMap_cons, List.length_append, ih, List.length_cons]; show 2 + _ = _; omega
  simp only [List.length_append, List.length_replicate, e]
  omega
theorem two_bytes (x : Int) : InB (two x) := fun y hy => by
  simp only [two, List.mem_cons, List.not_mem_nil, or_false] at hy
  rcases hy with rfl | rfl <;> omega
theorem places_bytes (l : List Ch) : InB (placesOf l) := fun x hx => by
  unfold placesOf at hx
  rcases List.mem_append.1 hx with h | h
  · obtain ⟨c, _, hc⟩ := List.mem_flatMap.1 h
    exact two_bytes _ x hc
  · rw [(List.mem_replicate.1 h).2]; decide
theorem images_low {l : List Ch} {i : Nat} {b : List Int} (hi : i < 3) (h : (imagesOf l)[i]? = some b) : InB b := by
  rw [images_eq, List.getElem?_append_left (by exact hi)] at h
  have hc : i = 0 ∨ i = 1 ∨ i = 2 := by omega
  rcases hc with rfl | rfl | rfl
  · obtain rfl := Option.some.inj h; exact fun x hx => places_bytes l x (List.mem_of_mem_take hx)
  · obtain rfl := Option.some.inj h; exact fun x hx => places_bytes l x (List.mem_of_mem_take (List.mem_of_mem_drop hx))
  · obtain rfl := Option.some.inj h; exact fun x hx => places_bytes l x (List.mem_of_mem_take (List.mem_of_mem_drop hx))
theorem head_bytes (l : List Ch) : InB (headOf l) := pad_bytes fun x hx => by
  simp only [List.mem_append, List.mem_cons, List.not_mem_nil, or_false] at hx
  rcases hx with (h | h) | h
  · rcases h with rfl | rfl <;> decide
  · exact two_bytes _ x h
  · rcases h with rfl | rfl | rfl | rfl <;> omega
theorem images_length (l : List Ch) : (imagesOf l).length = 3 + l.length := by rw [images_eq, List.length_append, List.length_map]; rfl
theorem images_full (h : l.length ≤ 96) : ∀ b ∈ imagesOf l, b.length = 64 := by
  intro b hb
  have hp := places_length h
  rw [images_eq, List.mem_append] at hb
  rcases hb with hb | hb
  · simp only [List.mem_cons, List.not_mem_nil, or_false] at hb
    rcases hb with rfl | rfl | rfl
    · rw [List.length_take]; omega
    · rw [List.length_drop, List.length_take]; omega
    · rw [List.length_drop, List.length_take]; omega
  · obtain ⟨c, _, rfl⟩ := List.mem_map.1 hb
    exact pad_length _
theorem head_length (l : List Ch) : (headOf l).length = 64 := pad_length _
theorem numbered_mem {k : Int} {bs : List (List Int)} {c : Ch} (h : c ∈ PD.numbered k bs) : ∃ i : Nat, c.1 = k + i ∧ bs[i]? = some c.2 := by
  induction bs generalizing k with
  | nil => cases h
  | cons b r ih =>
    rcases List.mem_cons.1 h with rfl | h
    · exact ⟨0, by simp, rfl⟩
    · obtain ⟨i, h1, h2⟩ := ih h
      exact ⟨i + 1, by rw [h1]; omega, by simpa using h2⟩
theorem numbered_at {k : Int} {bs : List (List Int)} {i : Nat} {b : List Int} (h : bs[i]? = some b) : (k + (i : Int), b) ∈ PD.numbered k bs := by
  induction bs generalizing k i with
  | nil => cases h
  | cons c r ih =>
    cases i with
    | zero => obtain rfl := Option.some.inj h; simp [PD.numbered]
    | succ i =>
      have := ih (k := k + 1) (i := i) (by simpa using h)
      rw [show k + ((i + 1 : Nat) : Int) = k + 1 + (i : Int) from by omega]
      exact List.mem_cons_of_mem _ this
theorem numbered_ge {k : Int} {bs : List (List Int)} {c : Ch} (h : c ∈ PD.numbered k bs) : k ≤ c.1 := by
  obtain ⟨i, h, _⟩ := numbered_mem h; omega
theorem numbered_nodup (k : Int) (bs : List (List Int)) : ((PD.numbered k bs).map (·.1)).Nodup := by
  induction bs generalizing k with
  | nil => exact List.nodup_nil
  | cons b r ih =>
    show (k :: (PD.numbered (k + 1) r).map (·.1)).Nodup
    rw [List.nodup_cons]
    refine ⟨fun h => ?_, ih _⟩
    obtain ⟨c, hc, h⟩ := List.mem_map.1 h
    have := numbered_ge hc
    omega
structure Job (n : Nat) (l : List Ch) : Prop where
  most : n ≤ 4096
  least : 100 < n
  fit : ∀ c ∈ l, 0 ≤ c.1 ∧ c.1 + 100 < n ∧ c.2.length ≤ 64
  nodup : (l.map (·.1)).Nodup
  pos : 1 ≤ l.length
  le : l.length ≤ 96
theorem Job.of_right {n : Nat} (h1 : n ≤ 4096) (h2 : 100 < n) (h : rightOf ((n : Int) - 100) l = true) : Job n l := by
  unfold rightOf at h
  obtain ⟨a, b, c, d⟩ := of_decide_eq_true h
  exact ⟨h1, h2, fun x hx => ⟨(a x hx).1, by have := (a x hx).2.1; omega, (a x hx).2.2⟩, b, c, d⟩
theorem ats_mem {c : Ch} (h : c ∈ ats l) : ∃ d ∈ l, c.1 = 100 + d.1 ∧ c.2 = d.2 := by
  obtain ⟨d, hd, rfl⟩ := List.mem_map.1 h
  exact ⟨d, hd, rfl, rfl⟩
theorem wrote_data {f : Sect} (hj : Job n l) {d : Ch} (hd : d ∈ l) : wrote (ats l) f (100 + d.1).toNat = pad d.2 := by
  have h0 := (hj.fit d hd).1
  exact wrote_mem (c := (100 + d.1, d.2)) (ats_nodup hj.nodup) (List.mem_map.2 ⟨d, hd, rfl⟩) (by show 100 + d.1 = _; omega)
theorem wrote_head {f : Sect} (hj : Job n l) {i : Nat} (hi : i < 100) : wrote (ats l) f i = f i := wrote_other fun c hc => by
  obtain ⟨d, hd, h1, _⟩ := ats_mem hc
  have := (hj.fit d hd).1
  omega
theorem PD_pad (hj : Job n l) {i : Nat} {b : List Int} (h : (imagesOf l)[i]? = some b) : pad b = b := pad_of_full (images_full hj.le b (List.mem_of_getElem? h))
structure Ends (n : Nat) (l : List Ch) (f : Sect) (D : PD) (r : Int × PD) : Prop where
  inv : Inv n l f r.2
  done : r.1 = 0 → Rests n (wrote (ats l) f) r.2
  ans : r.1 = 0 ∨ r.1 = 40
  up : D.Up → r.1 = 0 ∧ r.2.Up
theorem finish_ends (hj : Job n l) (hs : D.Settled) (h : D.Mays n (MC l f)) : Ends n l f D (D.finish l) := by
  have hb : ∀ c ∈ ats l, 0 ≤ c.1 ∧ c.1 < D.n ∧ c.2.length ≤ 64 := fun c hc => by
    obtain ⟨d, hd, h1, h2⟩ := ats_mem hc
    obtain ⟨a, b, c⟩ := hj.fit d hd
    rw [h.size, h1, h2]
    exact ⟨by omega, by omega, c⟩
  have h1 : (D.writes (ats l)).2.Mays n (MC l f) := h.writes fun c hc => by
    obtain ⟨d, hd, e1, e2⟩ := ats_mem hc
    have h0 := (hj.fit d hd).1
    have hl := hj.le
    rw [e1, e2]
    exact ⟨fun e => by omega, fun a b => by omega, fun _ => .inr (wrote_data hj hd).symm⟩
  have e : D.finish l = if (D.writes (ats l)).1 = 0 then (D.writes (ats l)).2.writes [(0, [])] else D.writes (ats l) := rfl
  have ha := PD.writes_ans hb
  by_cases hr : (D.writes (ats l)).1 = 0
  · rw [if_pos hr] at e
    obtain ⟨k1, k2⟩ := PD.writes_ok hr
    have hst : ∀ i, 100 ≤ i → (D.writes (ats l)).2.st i = wrote (ats l) f i := fun i hi => by
      rw [k2]
      by_cases hm : ∃ c ∈ ats l, c.1 = (i : Int)
      · obtain ⟨c, hc, e3⟩ := hm
        rw [wrote_mem (ats_nodup hj.nodup) hc e3, wrote_mem (ats_nodup hj.nodup) hc e3]
      · rw [wrote_other (fun c hc e => hm ⟨c, hc, e⟩)]
        have h3 : D.now i = D.st i := by unfold PD.now; rw [hs i]; rfl
        rw [h3]
        rcases (h.st i).2.2 hi with h4 | h4
        · rw [h4, wrote_other (fun c hc e => hm ⟨c, hc, e⟩)]
        · exact h4
    have h2 : (D.writes (ats l)).2.Mays n (ME l f) := ⟨h1.good, h1.size, h1.fine, fun i b hb => by
      obtain ⟨m1, m2, _⟩ := h1.may i b hb
      refine ⟨fun e => .inr (m1 e), m2, fun hi => ?_⟩
      rcases hb with rfl | hb
      · exact hst i hi
      · rw [k1 i] at hb; cases hb⟩
    have h3 : ((D.writes (ats l)).2.writes [(0, [])]).2.Mays n (ME l f) := h2.writes fun c hc => by
      obtain rfl := List.mem_singleton.1 hc
      exact ⟨fun _ => .inl rfl, fun a => by simp at a, fun a => by simp at a⟩
    have hb2 : ∀ c ∈ [((0, []) : Ch)], 0 ≤ c.1 ∧ c.1 < (D.writes (ats l)).2.n ∧ c.2.length ≤ 64 := fun c hc => by
      obtain rfl := List.mem_singleton.1 hc
      have := hj.least
      exact ⟨Int.le_refl _, by rw [h1.size]; show (0 : Int) < _; omega, by simp⟩
    rw [e]
    refine ⟨.e h3, fun h0 => ?_, PD.writes_ans hb2, fun hu => ?_⟩
    · obtain ⟨q1, q2⟩ := PD.writes_ok h0
      have q0 : ((D.writes (ats l)).2.writes [(0, [])]).2.st 0 = nought := by rw [q2]; rfl
      refine ⟨h3.good, h3.size, h3.fine, q1, q0, fun i hi => ?_, fun i hi => (h3.st i).2.2 hi⟩
      by_cases h0 : i = 0
      · subst h0; rw [q0]; exact nought_bytes
      · exact images_low (i := i - 1) (by omega) ((h3.st i).2.1 (by omega) (by omega))
    · exact PD.writes_up (PD.writes_up hu hb).2 hb2
  · rw [if_neg hr] at e
    rw [e]
    exact ⟨.c h1, fun h0 => absurd h0 hr, ha, fun hu => absurd (PD.writes_up hu hb).1 hr⟩
theorem doJob_ends (hj : Job n l) (h : Rests n f D) : Ends n l f D (D.doJob l) := by
  have hil := images_length l
  have hle := hj.le
  have hn := hj.least
  have hb : ∀ c ∈ PD.numbered 1 (imagesOf l), (1 ≤ c.1 ∧ c.1 ≤ 99) ∧ c.2.length = 64 := fun c hc => by
    obtain ⟨i, h1, h2⟩ := numbered_mem hc
    have hi := (List.getElem?_eq_some_iff.1 h2).1
    refine ⟨by omega, images_full hj.le _ (List.mem_of_getElem? h2)⟩
  have hb1 : ∀ c ∈ PD.numbered 1 (imagesOf l), 0 ≤ c.1 ∧ c.1 < D.n ∧ c.2.length ≤ 64 := fun c hc => by
    obtain ⟨⟨a, b⟩, c⟩ := hb c hc
    rw [h.size]
    exact ⟨by omega, by omega, by omega⟩
  have h1 : (D.writes (PD.numbered 1 (imagesOf l))).2.Mays n (MA f) := h.mays.writes fun c hc => by
    obtain ⟨⟨a, b⟩, _⟩ := hb c hc
    refine ⟨fun e => by omega, fun e => ?_, fun e => by omega⟩
    obtain ⟨i, h1, h2⟩ := numbered_mem hc
    exact pad_bytes (images_low (by omega) h2)
  have e : D.doJob l = if (D.writes (PD.numbered 1 (imagesOf l))).1 = 0 then (if ((D.writes (PD.numbered 1 (imagesOf l))).2.writes [(0, headOf l)]).1 = 0 then ((D.writes (PD.numbered 1 (imagesOf l))).2.writes [(0, headOf l)]).2.finish l else (D.writes (PD.numbered 1 (imagesOf l))).2.writes [(0, headOf l)]) else D.writes (PD.numbered 1 (imagesOf l)) := rfl
  by_cases hr : (D.writes (PD.numbered 1 (imagesOf l))).1 = 0
  · rw [if_pos hr] at e
    obtain ⟨k1, k2⟩ := PD.writes_ok hr
    have him : ∀ i, 1 ≤ i → i ≤ 3 + l.length → (imagesOf l)[i - 1]? = some ((D.writes (PD.numbered 1 (imagesOf l))).2.st i) := fun i h1 h2 => by
      have hx : (imagesOf l)[i - 1]? = some (imagesOf l)[i - 1] := List.getElem?_eq_getElem (by omega)
      rw [k2, hx, wrote_mem (numbered_nodup 1 _) (numbered_at hx) (by omega), PD_pad hj hx]
    have h2 : (D.writes (PD.numbered 1 (imagesOf l))).2.Mays n (MB l f) := ⟨h1.good, h1.size, h1.fine, fun i b hb => by
      obtain ⟨m1, _, m2⟩ := h1.may i b hb
      refine ⟨fun e => .inl (m1 e), fun a1 a2 => ?_, m2⟩
      rcases hb with rfl | hb
      · exact him i a1 a2
      · rw [k1 i] at hb; cases hb⟩
    have h3 : ((D.writes (PD.numbered 1 (imagesOf l))).2.writes [(0, headOf l)]).2.Mays n (MB l f) := h2.writes fun c hc => by
      obtain rfl := List.mem_singleton.1 hc
      exact ⟨fun _ => .inr (pad_of_full (head_length l)), fun a => by simp at a, fun a => by simp at a⟩
    have hb2 : ∀ c ∈ [((0, headOf l) : Ch)], 0 ≤ c.1 ∧ c.1 < (D.writes (PD.numbered 1 (imagesOf l))).2.n ∧ c.2.length ≤ 64 := fun c hc => by
      obtain rfl := List.mem_singleton.1 hc
      exact ⟨Int.le_refl _, by rw [h1.size]; show (0 : Int) < _; omega, by rw [head_length]; exact Nat.le_refl _⟩
    by_cases hr2 : ((D.writes (PD.numbered 1 (imagesOf l))).2.writes [(0, headOf l)]).1 = 0
    · rw [if_pos hr2] at e
      obtain ⟨q1, q2⟩ := PD.writes_ok hr2
      have h4 : ((D.writes (PD.numbered 1 (imagesOf l))).2.writes [(0, headOf l)]).2.Mays n (MC l f) := ⟨h3.good, h3.size, h3.fine, fun i b hb => by
        obtain ⟨m1, m2, m3⟩ := h3.may i b hb
        refine ⟨fun e => ?_, m2, fun hi => .inl (m3 hi)⟩
        rcases hb with rfl | hb
        · rw [e, q2, wrote_mem (c := (0, headOf l)) (by simp) (by simp) rfl, pad_of_full (head_length l)]
        · rw [q1 i] at hb; cases hb⟩
      have h5 := finish_ends hj q1 h4
      rw [e]
      refine ⟨h5.inv, h5.done, h5.ans, fun hu => ?_⟩
      have u1 := (PD.writes_up hu hb1).2
      exact h5.up (PD.writes_up u1 hb2).2
    · rw [if_neg hr2] at e
      rw [e]
      exact ⟨.b h3, fun h0 => absurd h0 hr2, PD.writes_ans hb2, fun hu => absurd (PD.writes_up (PD.writes_up hu hb1).2 hb2).1 hr2⟩
  · rw [if_neg hr] at e
    rw [e]
    exact ⟨.a h1, fun h0 => absurd h0 hr, PD.writes_ans hb1, fun hu => absurd (PD.writes_up hu hb1).1 hr⟩
end
end Go.Proofs.Ytjpbpeiknnloeaa.Dk
