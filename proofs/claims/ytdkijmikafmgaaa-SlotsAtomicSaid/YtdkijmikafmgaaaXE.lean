/-
The journal's and the slots' plain law, and the slots' walks, one text behind the other.
-/
import Derived.Test.YtdkijmikafmgaaaXC
import Derived.Lib.Bytes
import Derived.Test.YtdkijmikafmgaaaXD
namespace Go.Proofs.Ytdkijmikafmgaaa.Dk
set_option linter.unusedVariables false
set_option linter.unusedSimpArgs false

abbrev Sect := Nat → List Int
/-- What stands behind writes. -/
def wrote (l : List Ch) (f : Sect) : Sect := l.foldl (fun f c => fun j => if (j : Int) = c.1 then pad c.2 else f j) f
theorem wrote_cons (c : Ch) (l : List Ch) (f : Sect) : wrote (c :: l) f = wrote l (fun j => if (j : Int) = c.1 then pad c.2 else f j) := rfl
theorem wrote_other {l : List Ch} {f : Sect} {j : Nat} (h : ∀ c ∈ l, c.1 ≠ (j : Int)) : wrote l f j = f j := by
  induction l generalizing f with
  | nil => rfl
  | cons c r ih =>
    rw [wrote_cons, ih (fun x hx => h x (List.mem_cons_of_mem _ hx)), if_neg (fun e => h c List.mem_cons_self e.symm)]
theorem wrote_mem {l : List Ch} {f : Sect} (hn : (l.map (·.1)).Nodup) {c : Ch} (hc : c ∈ l) {j : Nat} (hj : c.1 = (j : Int)) : wrote l f j = pad c.2 := by
  induction l generalizing f with
  | nil => cases hc
  | cons d r ih =>
    rw [List.map_cons, List.nodup_cons] at hn
    rw [wrote_cons]
    rcases List.mem_cons.1 hc with rfl | hc
    · rw [wrote_other (fun x hx e => hn.1 (List.mem_map.2 ⟨x, hx, by rw [e, hj]⟩)), if_pos hj.symm]
    · exact ih hn.2 hc
theorem wrote_len {l : List Ch} {f : Sect} (h : ∀ i, (f i).length = 64) (i : Nat) : (wrote l f i).length = 64 := by
  induction l generalizing f with
  | nil => exact h i
  | cons d r ih =>
    rw [wrote_cons]
    refine ih (fun j => ?_)
    split
    · exact pad_length _
    · exact h j
theorem wrote_congr {l : List Ch} {f g : Sect} {i : Nat} (h : f i = g i) : wrote l f i = wrote l g i := by
  induction l generalizing f g with
  | nil => exact h
  | cons d r ih =>
    rw [wrote_cons, wrote_cons]
    refine ih ?_
    show (if _ then _ else _) = (if _ then _ else _)
    rw [h]
namespace PD
/-- What a sector may have behind a crash. -/
def May (D : PD) (i : Nat) (b : List Int) : Prop := D.st i = b ∨ D.pe i = some b
theorem may_stand {D : PD} {keep : Nat → Bool} {i : Nat} {b : List Int} (h : (D.stand keep).May i b) : D.May i b := by
  rcases h with h | h
  · simp only [PD.stand] at h
    cases hp : D.pe i with
    | none => rw [hp] at h; exact .inl h
    | some c =>
      rw [hp] at h
      simp only at h
      split at h
      · exact .inr (by rw [hp, h])
      · exact .inl h
  · cases h
theorem may_put {D : PD} {k i : Nat} {c b : List Int} (h : (D.put k c).May i b) : D.May i b ∨ (i = k ∧ b = c) := by
  rcases h with h | h
  · exact .inl (.inl h)
  · simp only [PD.put] at h
    by_cases e : i = k
    · rw [if_pos e] at h; exact .inr ⟨e, (Option.some.inj h).symm⟩
    · rw [if_neg e] at h; exact .inl (.inr h)
def Settled (D : PD) : Prop := ∀ i, D.pe i = none
/-- A disk of n sectors, none bad, each with one of some rows. -/
structure Mays (n : Nat) (M : Nat → List Int → Prop) (D : PD) : Prop where
  good : D.Good
  size : D.n = n
  fine : ∀ i, D.bad i = false
  may : ∀ i b, D.May i b → M i b
section
variable {n : Nat} {M M2 : Nat → List Int → Prop} {D : PD}
theorem Mays.mono (h : Mays n M D) (hm : ∀ i b, M i b → M2 i b) : Mays n M2 D := ⟨h.good, h.size, h.fine, fun i b hb => hm i b (h.may i b hb)⟩
theorem Mays.call (h : Mays n M D) : Mays n M D.call := ⟨h.good.call, h.size, h.fine, h.may⟩
theorem Mays.arm (h : Mays n M D) {k : Int} (hk : k < 9223372036854775808) : Mays n M (D.arm k) := ⟨h.good.arm hk, h.size, h.fine, h.may⟩
theorem Mays.stand (h : Mays n M D) (keep : Nat → Bool) : Mays n M (D.stand keep) := ⟨h.good.stand keep, h.size, h.fine, fun i b hb => h.may i b (may_stand hb)⟩
theorem Mays.crash (h : Mays n M D) (keep : List Bool) : Mays n M (D.crash keep) := ⟨h.good.crash keep, h.size, h.fine, fun i b hb => h.may i b (may_stand (keep := fun k => keep.getD k false) hb)⟩
theorem Mays.put (h : Mays n M D) {k : Nat} (hk : k < n) {c : List Int} (hl : c.length = 64) (hc : M k c) : Mays n M (D.put k c) :=
  ⟨h.good.put (by rw [h.size]; exact hk) hl, h.size, h.fine, fun i b hb => by
    rcases may_put hb with hb | ⟨rfl, rfl⟩
    · exact h.may i b hb
    · exact hc⟩
theorem Mays.st (h : Mays n M D) (i : Nat) : M i (D.st i) := h.may i _ (.inl rfl)
theorem write_cases (D : PD) (i : Int) (b : List Int) : ((D.write i b).1 = 40 ∧ ((D.write i b).2 = D ∨ (D.write i b).2 = D.call)) ∨ ((D.write i b).1 = 11 ∧ (D.write i b).2 = D ∧ (D.there i = false ∨ 64 < b.length)) ∨ ((D.write i b).1 = 0 ∧ (D.write i b).2 = D.call.put i.toNat (pad b) ∧ 0 ≤ i ∧ i < D.n) := by
  unfold PD.write
  split
  · exact .inl ⟨rfl, .inl rfl⟩
  · split
    · rename_i h; exact .inr (.inl ⟨rfl, rfl, h⟩)
    · split
      · exact .inl ⟨rfl, .inr rfl⟩
      · rename_i h _
        refine .inr (.inr ⟨rfl, rfl, ?_⟩)
        apply (there_iff D i).1
        cases hq : D.there i with
        | true => rfl
        | false => exact absurd (.inl hq) h
theorem flush_cases (D : PD) : (D.flush.1 = 40 ∧ (D.flush.2 = D ∨ D.flush.2 = D.call)) ∨ (D.flush.1 = 0 ∧ D.flush.2 = D.call.stand fun _ => true) := by
  unfold PD.flush
  split
  · exact .inl ⟨rfl, .inl rfl⟩
  · split
    · exact .inl ⟨rfl, .inr rfl⟩
    · exact .inr ⟨rfl, rfl⟩
theorem Mays.write (h : Mays n M D) (i : Int) (b : List Int) (hm : M i.toNat (pad b)) : Mays n M (D.write i b).2 := by
  rcases write_cases D i b with ⟨_, h2 | h2⟩ | ⟨_, h2, _⟩ | ⟨_, h2, h3, h4⟩
  · rw [h2]; exact h
  · rw [h2]; exact h.call
  · rw [h2]; exact h
  · rw [h2]; exact h.call.put (by rw [h.size] at h4; omega) (pad_length b) hm
theorem Mays.flush (h : Mays n M D) : Mays n M D.flush.2 := by
  rcases flush_cases D with ⟨_, h2 | h2⟩ | ⟨_, h2⟩
  · rw [h2]; exact h
  · rw [h2]; exact h.call
  · rw [h2]; exact h.call.stand _
theorem Mays.writes {l : List Ch} : ∀ {D : PD}, Mays n M D → (∀ c ∈ l, M c.1.toNat (pad c.2)) → Mays n M (D.writes l).2 := by
  induction l with
  | nil => intro D h _; exact h.flush
  | cons c r ih =>
    intro D h hm
    have h1 := h.write c.1 c.2 (hm c List.mem_cons_self)
    unfold PD.writes
    split
    · exact ih h1 (fun x hx => hm x (List.mem_cons_of_mem _ hx))
    · exact h1
theorem writes_ans {l : List Ch} : ∀ {D : PD}, (∀ c ∈ l, 0 ≤ c.1 ∧ c.1 < D.n ∧ c.2.length ≤ 64) → (D.writes l).1 = 0 ∨ (D.writes l).1 = 40 := by
  induction l with
  | nil => intro D _; rcases flush_cases D with ⟨h, _⟩ | ⟨h, _⟩; exact .inr h; exact .inl h
  | cons c r ih =>
    intro D hm
    unfold PD.writes
    obtain ⟨m1, m2, m3⟩ := hm c List.mem_cons_self
    rcases write_cases D c.1 c.2 with ⟨h, _⟩ | ⟨_, _, h⟩ | ⟨h, h2, _⟩
    · rw [if_neg (by rw [h]; decide)]; exact .inr h
    · rcases h with h | h
      · rw [(there_iff D c.1).2 ⟨m1, m2⟩] at h; cases h
      · omega
    · rw [if_pos h, h2]
      exact ih (fun x hx => hm x (List.mem_cons_of_mem _ hx))
theorem writes_up {l : List Ch} : ∀ {D : PD}, Up D → (∀ c ∈ l, 0 ≤ c.1 ∧ c.1 < D.n ∧ c.2.length ≤ 64) → (D.writes l).1 = 0 ∧ Up (D.writes l).2 := by
  induction l with
  | nil => intro D h _; unfold PD.writes; rw [h.flush]; exact ⟨rfl, h.stand (fun _ => true)⟩
  | cons c r ih =>
    intro D h hm
    obtain ⟨m1, m2, m3⟩ := hm c List.mem_cons_self
    have e := h.write (i := c.1.toNat) (by omega) m3
    rw [Int.toNat_of_nonneg m1] at e
    unfold PD.writes
    rw [e]
    exact ih (h.put _ _) (fun x hx => hm x (List.mem_cons_of_mem _ hx))
theorem writes_ok {l : List Ch} : ∀ {D : PD}, (D.writes l).1 = 0 → Settled (D.writes l).2 ∧ ∀ i, (D.writes l).2.st i = wrote l D.now i := by
  induction l with
  | nil =>
    intro D h
    rcases flush_cases D with ⟨h1, _⟩ | ⟨_, h2⟩
    · have h : D.flush.1 = 0 := h
      rw [h1] at h; cases h
    · have h3 : (D.writes []).2 = D.call.stand fun _ => true := h2
      rw [h3]
      exact ⟨fun _ => rfl, fun i => (now_flush D i)⟩
  | cons c r ih =>
    intro D h
    unfold PD.writes at h ⊢
    rcases write_cases D c.1 c.2 with ⟨h1, _⟩ | ⟨h1, _⟩ | ⟨h1, h2, h3, h4⟩
    · rw [if_neg (by rw [h1]; decide)] at h; rw [h1] at h; cases h
    · rw [if_neg (by rw [h1]; decide)] at h; rw [h1] at h; cases h
    · rw [if_pos h1, h2] at h ⊢
      obtain ⟨k1, k2⟩ := ih h
      refine ⟨k1, fun i => ?_⟩
      rw [k2, wrote_cons]
      refine wrote_congr ?_
      show _ = (if _ then _ else _)
      by_cases e : (i : Int) = c.1
      · rw [if_pos e]
        have e2 : i = c.1.toNat := by omega
        rw [e2, now_put_same]
      · rw [if_neg e, now_put_other _ (fun e2 => e (by omega))]
        rfl
end
end PD
theorem zero_len : (List.replicate 64 (0 : Int)).length = 64 := List.length_replicate
abbrev nought : List Int := List.replicate 64 0
/-- The data sectors as changes of sectors. -/
def ats (l : List Ch) : List Ch := l.map fun c => (100 + c.1, c.2)
theorem ats_nodup {l : List Ch} (h : (l.map (·.1)).Nodup) : ((ats l).map (·.1)).Nodup := by
  unfold ats
  rw [List.map_map]
  have e : (fun x : Ch => x.1) ∘ (fun c : Ch => ((100 + c.1, c.2) : Ch)) = (fun x : Int => 100 + x) ∘ (fun c : Ch => c.1) := rfl
  rw [e, ← List.map_map]
  unfold List.Nodup at h ⊢
  rw [List.pairwise_map]
  exact h.imp fun hab e => hab (by omega)
abbrev InB (b : List Int) : Prop := ∀ x ∈ b, 0 ≤ x ∧ x < 256
theorem nought_bytes : InB nought := fun x hx => by rw [(List.mem_replicate.1 hx).2]; decide
theorem pad_bytes {b : List Int} (h : InB b) : InB (pad b) := fun x hx => by
  have := List.mem_of_mem_take hx
  rcases List.mem_append.1 this with h1 | h1
  · exact h x h1
  · exact nought_bytes x h1
/-- A disk at rest: no job stands, and the data sectors are f. -/
structure Rests (n : Nat) (f : Sect) (D : PD) : Prop where
  good : D.Good
  size : D.n = n
  fine : ∀ i, D.bad i = false
  set : D.Settled
  head : D.st 0 = nought
  low : ∀ i, i < 4 → InB (D.st i)
  data : ∀ i, 100 ≤ i → D.st i = f i
section
variable {n : Nat} {l l' : List Ch} {f g : Sect} {D : PD}
/-- What sectors may have before a job, while its head is written, while it is done, while its head goes, and behind it. -/
def MA (f : Sect) (i : Nat) (b : List Int) : Prop := (i = 0 → b = nought) ∧ (i < 4 → InB b) ∧ (100 ≤ i → b = f i)
def Img (l : List Ch) (i : Nat) (b : List Int) : Prop := 1 ≤ i → i ≤ 3 + l.length → (imagesOf l)[i - 1]? = some b
def MB (l : List Ch) (f : Sect) (i : Nat) (b : List Int) : Prop := (i = 0 → b = nought ∨ b = headOf l) ∧ Img l i b ∧ (100 ≤ i → b = f i)
def MC (l : List Ch) (f : Sect) (i : Nat) (b : List Int) : Prop := (i = 0 → b = headOf l) ∧ Img l i b ∧ (100 ≤ i → b = f i ∨ b = wrote (ats l) f i)
def ME (l : List Ch) (f : Sect) (i : Nat) (b : List Int) : Prop := (i = 0 → b = nought ∨ b = headOf l) ∧ Img l i b ∧ (100 ≤ i → b = wrote (ats l) f i)
/-- All that a job's disk may be. -/
inductive Inv (n : Nat) (l : List Ch) (f : Sect) (D : PD) : Prop
  | a (h : D.Mays n (MA f))
  | b (h : D.Mays n (MB l f))
  | c (h : D.Mays n (MC l f))
  | e (h : D.Mays n (ME l f))
  | f (h : D.Mays n (MA (wrote (ats l) f)))
theorem Inv.crash (h : Inv n l f D) (keep : List Bool) : Inv n l f (D.crash keep) := by
  cases h with
  | a h => exact .a (h.crash keep)
  | b h => exact .b (h.crash keep)
  | c h => exact .c (h.crash keep)
  | e h => exact .e (h.crash keep)
  | f h => exact .f (h.crash keep)
theorem Inv.arm (h : Inv n l f D) {k : Int} (hk : k < 9223372036854775808) : Inv n l f (D.arm k) := by
  cases h with
  | a h => exact .a (h.arm hk)
  | b h => exact .b (h.arm hk)
  | c h => exact .c (h.arm hk)
  | e h => exact .e (h.arm hk)
  | f h => exact .f (h.arm hk)
theorem Rests.mays (h : Rests n f D) : D.Mays n (MA f) := ⟨h.good, h.size, h.fine, fun i b hb => by
  rcases hb with rfl | hb
  · exact ⟨fun e => by rw [e]; exact h.head, h.low i, h.data i⟩
  · rw [h.set i] at hb; cases hb⟩
theorem Rests.of (h : D.Mays n (MA f)) (hs : D.Settled) : Rests n f D := ⟨h.good, h.size, h.fine, hs, (h.st 0).1 rfl, fun i hi => (h.st i).2.1 hi, fun i hi => (h.st i).2.2 hi⟩
theorem Rests.arm (h : Rests n f D) {k : Int} (hk : k < 9223372036854775808) : Rests n f (D.arm k) := ⟨h.good.arm hk, h.size, h.fine, h.set, h.head, h.low, h.data⟩
theorem Rests.new {n : Nat} (h1 : 1 ≤ n) (h2 : n ≤ 4096) : Rests n (fun _ => nought) (PD.new n) := ⟨PD.Good.new h1 h2, rfl, fun _ => rfl, fun _ => rfl, rfl, fun _ _ => nought_bytes, fun _ _ => rfl⟩
theorem images_eq (l : List Ch) : imagesOf l = [(placesOf l).take 64, ((placesOf l).take 128).drop 64, ((placesOf l).take 192).drop 128] ++ l.map fun c => pad c.2 := rfl
theorem places_length (h : l.length ≤ 96) : (placesOf l).length = 192 := by
  unfold placesOf
  have e : (l.flatMap fun c => two c.1).length = 2 * l.length := by
    clear h
    induction l with
    | nil => rfl
    | cons c r ih => rw [List.flatMap_cons, List.length_append, ih, List.length_cons]; show 2 + _ = _; omega
  simp only [List.length_append, List.length_replicate, e]
  omega
theorem two_bytes (x : Int) : InB (two x) := fun y hy => by
  simp only [two, List.mem_cons, List.not_mem_nil, or_false] at hy
  rcases hy with rfl | rfl <;> omega
theorem places_bytes (l : List Ch) : InB (placesOf l) := fun x hx => by
  unfold placesOf at hx
  rcases List.mem_append.1 hx with h | h
  · obtain ⟨c, _, hc⟩ := List.mem_flatMap.1 h
    exact two_bytes _ x hc
  · rw [(List.mem_replicate.1 h).2]; decide
theorem images_low {l : List Ch} {i : Nat} {b : List Int} (hi : i < 3) (h : (imagesOf l)[i]? = some b) : InB b := by
  rw [images_eq, List.getElem?_append_left (by exact hi)] at h
  have hc : i = 0 ∨ i = 1 ∨ i = 2 := by omega
  rcases hc with rfl | rfl | rfl
  · obtain rfl := Option.some.inj h; exact fun x hx => places_bytes l x (List.mem_of_mem_take hx)
  · obtain rfl := Option.some.inj h; exact fun x hx => places_bytes l x (List.mem_of_mem_take (List.mem_of_mem_drop hx))
  · obtain rfl := Option.some.inj h; exact fun x hx => places_bytes l x (List.mem_of_mem_take (List.mem_of_mem_drop hx))
theorem head_bytes (l : List Ch) : InB (headOf l) := pad_bytes fun x hx => by
  simp only [List.mem_append, List.mem_cons, List.not_mem_nil, or_false] at hx
  rcases hx with (h | h) | h
  · rcases h with rfl | rfl <;> decide
  · exact two_bytes _ x h
  · rcases h with rfl | rfl | rfl | rfl <;> omega
theorem images_length (l : List Ch) : (imagesOf l).length = 3 + l.length := by rw [images_eq, List.length_append, List.length_map]; rfl
theorem images_full (h : l.length ≤ 96) : ∀ b ∈ imagesOf l, b.length = 64 := by
  intro b hb
  have hp := places_length h
  rw [images_eq, List.mem_append] at hb
  rcases hb with hb | hb
  · simp only [List.mem_cons, List.not_mem_nil, or_false] at hb
    rcases hb with rfl | rfl | rfl
    · rw [List.length_take]; omega
    · rw [List.length_drop, List.length_take]; omega
    · rw [List.length_drop, List.length_take]; omega
  · obtain ⟨c, _, rfl⟩ := List.mem_map.1 hb
    exact pad_length _
theorem head_length (l : List Ch) : (headOf l).length = 64 := pad_length _
theorem numbered_mem {k : Int} {bs : List (List Int)} {c : Ch} (h : c ∈ PD.numbered k bs) : ∃ i : Nat, c.1 = k + i ∧ bs[i]? = some c.2 := by
  induction bs generalizing k with
  | nil => cases h
  | cons b r ih =>
    rcases List.mem_cons.1 h with rfl | h
    · exact ⟨0, by simp, rfl⟩
    · obtain ⟨i, h1, h2⟩ := ih h
      exact ⟨i + 1, by rw [h1]; omega, by simpa using h2⟩
theorem numbered_at {k : Int} {bs : List (List Int)} {i : Nat} {b : List Int} (h : bs[i]? = some b) : (k + (i : Int), b) ∈ PD.numbered k bs := by
  induction bs generalizing k i with
  | nil => cases h
  | cons c r ih =>
    cases i with
    | zero => obtain rfl := Option.some.inj h; simp [PD.numbered]
    | succ i =>
      have := ih (k := k + 1) (i := i) (by simpa using h)
      rw [show k + ((i + 1 : Nat) : Int) = k + 1 + (i : Int) from by omega]
      exact List.mem_cons_of_mem _ this
theorem numbered_ge {k : Int} {bs : List (List Int)} {c : Ch} (h : c ∈ PD.numbered k bs) : k ≤ c.1 := by
  obtain ⟨i, h, _⟩ := numbered_mem h; omega
theorem numbered_nodup (k : Int) (bs : List (List Int)) : ((PD.numbered k bs).map (·.1)).Nodup := by
  induction bs generalizing k with
  | nil => exact List.nodup_nil
  | cons b r ih =>
    show (k :: (PD.numbered (k + 1) r).map (·.1)).Nodup
    rw [List.nodup_cons]
    refine ⟨fun h => ?_, ih _⟩
    obtain ⟨c, hc, h⟩ := List.mem_map.1 h
    have := numbered_ge hc
    omega
structure Job (n : Nat) (l : List Ch) : Prop where
  most : n ≤ 4096
  least : 100 < n
  fit : ∀ c ∈ l, 0 ≤ c.1 ∧ c.1 + 100 < n ∧ c.2.length ≤ 64
  nodup : (l.map (·.1)).Nodup
  pos : 1 ≤ l.length
  le : l.length ≤ 96
theorem Job.of_right {n : Nat} (h1 : n ≤ 4096) (h2 : 100 < n) (h : rightOf ((n : Int) - 100) l = true) : Job n l := by
  unfold rightOf at h
  obtain ⟨a, b, c, d⟩ := of_decide_eq_true h
  exact ⟨h1, h2, fun x hx => ⟨(a x hx).1, by have := (a x hx).2.1; omega, (a x hx).2.2⟩, b, c, d⟩
theorem ats_mem {c : Ch} (h : c ∈ ats l) : ∃ d ∈ l, c.1 = 100 + d.1 ∧ c.2 = d.2 := by
  obtain ⟨d, hd, rfl⟩ := List.mem_map.1 h
  exact ⟨d, hd, rfl, rfl⟩
theorem wrote_data {f : Sect} (hj : Job n l) {d : Ch} (hd : d ∈ l) : wrote (ats l) f (100 + d.1).toNat = pad d.2 := by
  have h0 := (hj.fit d hd).1
  exact wrote_mem (c := (100 + d.1, d.2)) (ats_nodup hj.nodup) (List.mem_map.2 ⟨d, hd, rfl⟩) (by show 100 + d.1 = _; omega)
theorem wrote_head {f : Sect} (hj : Job n l) {i : Nat} (hi : i < 100) : wrote (ats l) f i = f i := wrote_other fun c hc => by
  obtain ⟨d, hd, h1, _⟩ := ats_mem hc
  have := (hj.fit d hd).1
  omega
theorem PD_pad (hj : Job n l) {i : Nat} {b : List Int} (h : (imagesOf l)[i]? = some b) : pad b = b := pad_of_full (images_full hj.le b (List.mem_of_getElem? h))
structure Ends (n : Nat) (l : List Ch) (f : Sect) (D : PD) (r : Int × PD) : Prop where
  inv : Inv n l f r.2
  done : r.1 = 0 → Rests n (wrote (ats l) f) r.2
  ans : r.1 = 0 ∨ r.1 = 40
  up : D.Up → r.1 = 0 ∧ r.2.Up
theorem finish_ends (hj : Job n l) (hs : D.Settled) (h : D.Mays n (MC l f)) : Ends n l f D (D.finish l) := by
  have hb : ∀ c ∈ ats l, 0 ≤ c.1 ∧ c.1 < D.n ∧ c.2.length ≤ 64 := fun c hc => by
    obtain ⟨d, hd, h1, h2⟩ := ats_mem hc
    obtain ⟨a, b, c⟩ := hj.fit d hd
    rw [h.size, h1, h2]
    exact ⟨by omega, by omega, c⟩
  have h1 : (D.writes (ats l)).2.Mays n (MC l f) := h.writes fun c hc => by
    obtain ⟨d, hd, e1, e2⟩ := ats_mem hc
    have h0 := (hj.fit d hd).1
    have hl := hj.le
    rw [e1, e2]
    exact ⟨fun e => by omega, fun a b => by omega, fun _ => .inr (wrote_data hj hd).symm⟩
  have e : D.finish l = if (D.writes (ats l)).1 = 0 then (D.writes (ats l)).2.writes [(0, [])] else D.writes (ats l) := rfl
  have ha := PD.writes_ans hb
  by_cases hr : (D.writes (ats l)).1 = 0
  · rw [if_pos hr] at e
    obtain ⟨k1, k2⟩ := PD.writes_ok hr
    have hst : ∀ i, 100 ≤ i → (D.writes (ats l)).2.st i = wrote (ats l) f i := fun i hi => by
      rw [k2]
      by_cases hm : ∃ c ∈ ats l, c.1 = (i : Int)
      · obtain ⟨c, hc, e3⟩ := hm
        rw [wrote_mem (ats_nodup hj.nodup) hc e3, wrote_mem (ats_nodup hj.nodup) hc e3]
      · rw [wrote_other (fun c hc e => hm ⟨c, hc, e⟩)]
        have h3 : D.now i = D.st i := by unfold PD.now; rw [hs i]; rfl
        rw [h3]
        rcases (h.st i).2.2 hi with h4 | h4
        · rw [h4, wrote_other (fun c hc e => hm ⟨c, hc, e⟩)]
        · exact h4
    have h2 : (D.writes (ats l)).2.Mays n (ME l f) := ⟨h1.good, h1.size, h1.fine, fun i b hb => by
      obtain ⟨m1, m2, _⟩ := h1.may i b hb
      refine ⟨fun e => .inr (m1 e), m2, fun hi => ?_⟩
      rcases hb with rfl | hb
      · exact hst i hi
      · rw [k1 i] at hb; cases hb⟩
    have h3 : ((D.writes (ats l)).2.writes [(0, [])]).2.Mays n (ME l f) := h2.writes fun c hc => by
      obtain rfl := List.mem_singleton.1 hc
      exact ⟨fun _ => .inl rfl, fun a => by simp at a, fun a => by simp at a⟩
    have hb2 : ∀ c ∈ [((0, []) : Ch)], 0 ≤ c.1 ∧ c.1 < (D.writes (ats l)).2.n ∧ c.2.length ≤ 64 := fun c hc => by
      obtain rfl := List.mem_singleton.1 hc
      have := hj.least
      exact ⟨Int.le_refl _, by rw [h1.size]; show (0 : Int) < _; omega, by simp⟩
    rw [e]
    refine ⟨.e h3, fun h0 => ?_, PD.writes_ans hb2, fun hu => ?_⟩
    · obtain ⟨q1, q2⟩ := PD.writes_ok h0
      have q0 : ((D.writes (ats l)).2.writes [(0, [])]).2.st 0 = nought := by rw [q2]; rfl
      refine ⟨h3.good, h3.size, h3.fine, q1, q0, fun i hi => ?_, fun i hi => (h3.st i).2.2 hi⟩
      by_cases h0 : i = 0
      · subst h0; rw [q0]; exact nought_bytes
      · exact images_low (i := i - 1) (by omega) ((h3.st i).2.1 (by omega) (by omega))
    · exact PD.writes_up (PD.writes_up hu hb).2 hb2
  · rw [if_neg hr] at e
    rw [e]
    exact ⟨.c h1, fun h0 => absurd h0 hr, ha, fun hu => absurd (PD.writes_up hu hb).1 hr⟩
theorem doJob_ends (hj : Job n l) (h : Rests n f D) : Ends n l f D (D.doJob l) := by
  have hil := images_length l
  have hle := hj.le
  have hn := hj.least
  have hb : ∀ c ∈ PD.numbered 1 (imagesOf l), (1 ≤ c.1 ∧ c.1 ≤ 99) ∧ c.2.length = 64 := fun c hc => by
    obtain ⟨i, h1, h2⟩ := numbered_mem hc
    have hi := (List.getElem?_eq_some_iff.1 h2).1
    refine ⟨by omega, images_full hj.le _ (List.mem_of_getElem? h2)⟩
  have hb1 : ∀ c ∈ PD.numbered 1 (imagesOf l), 0 ≤ c.1 ∧ c.1 < D.n ∧ c.2.length ≤ 64 := fun c hc => by
    obtain ⟨⟨a, b⟩, c⟩ := hb c hc
    rw [h.size]
    exact ⟨by omega, by omega, by omega⟩
  have h1 : (D.writes (PD.numbered 1 (imagesOf l))).2.Mays n (MA f) := h.mays.writes fun c hc => by
    obtain ⟨⟨a, b⟩, _⟩ := hb c hc
    refine ⟨fun e => by omega, fun e => ?_, fun e => by omega⟩
    obtain ⟨i, h1, h2⟩ := numbered_mem hc
    exact pad_bytes (images_low (by omega) h2)
  have e : D.doJob l = if (D.writes (PD.numbered 1 (imagesOf l))).1 = 0 then (if ((D.writes (PD.numbered 1 (imagesOf l))).2.writes [(0, headOf l)]).1 = 0 then ((D.writes (PD.numbered 1 (imagesOf l))).2.writes [(0, headOf l)]).2.finish l else (D.writes (PD.numbered 1 (imagesOf l))).2.writes [(0, headOf l)]) else D.writes (PD.numbered 1 (imagesOf l)) := rfl
  by_cases hr : (D.writes (PD.numbered 1 (imagesOf l))).1 = 0
  · rw [if_pos hr] at e
    obtain ⟨k1, k2⟩ := PD.writes_ok hr
    have him : ∀ i, 1 ≤ i → i ≤ 3 + l.length → (imagesOf l)[i - 1]? = some ((D.writes (PD.numbered 1 (imagesOf l))).2.st i) := fun i h1 h2 => by
      have hx : (imagesOf l)[i - 1]? = some (imagesOf l)[i - 1] := List.getElem?_eq_getElem (by omega)
      rw [k2, hx, wrote_mem (numbered_nodup 1 _) (numbered_at hx) (by omega), PD_pad hj hx]
    have h2 : (D.writes (PD.numbered 1 (imagesOf l))).2.Mays n (MB l f) := ⟨h1.good, h1.size, h1.fine, fun i b hb => by
      obtain ⟨m1, _, m2⟩ := h1.may i b hb
      refine ⟨fun e => .inl (m1 e), fun a1 a2 => ?_, m2⟩
      rcases hb with rfl | hb
      · exact him i a1 a2
      · rw [k1 i] at hb; cases hb⟩
    have h3 : ((D.writes (PD.numbered 1 (imagesOf l))).2.writes [(0, headOf l)]).2.Mays n (MB l f) := h2.writes fun c hc => by
      obtain rfl := List.mem_singleton.1 hc
      exact ⟨fun _ => .inr (pad_of_full (head_length l)), fun a => by simp at a, fun a => by simp at a⟩
    have hb2 : ∀ c ∈ [((0, headOf l) : Ch)], 0 ≤ c.1 ∧ c.1 < (D.writes (PD.numbered 1 (imagesOf l))).2.n ∧ c.2.length ≤ 64 := fun c hc => by
      obtain rfl := List.mem_singleton.1 hc
      exact ⟨Int.le_refl _, by rw [h1.size]; show (0 : Int) < _; omega, by rw [head_length]; exact Nat.le_refl _⟩
    by_cases hr2 : ((D.writes (PD.numbered 1 (imagesOf l))).2.writes [(0, headOf l)]).1 = 0
    · rw [if_pos hr2] at e
      obtain ⟨q1, q2⟩ := PD.writes_ok hr2
      have h4 : ((D.writes (PD.numbered 1 (imagesOf l))).2.writes [(0, headOf l)]).2.Mays n (MC l f) := ⟨h3.good, h3.size, h3.fine, fun i b hb => by
        obtain ⟨m1, m2, m3⟩ := h3.may i b hb
        refine ⟨fun e => ?_, m2, fun hi => .inl (m3 hi)⟩
        rcases hb with rfl | hb
        · rw [e, q2, wrote_mem (c := (0, headOf l)) (by simp) (by simp) rfl, pad_of_full (head_length l)]
        · rw [q1 i] at hb; cases hb⟩
      have h5 := finish_ends hj q1 h4
      rw [e]
      refine ⟨h5.inv, h5.done, h5.ans, fun hu => ?_⟩
      have u1 := (PD.writes_up hu hb1).2
      exact h5.up (PD.writes_up u1 hb2).2
    · rw [if_neg hr2] at e
      rw [e]
      exact ⟨.b h3, fun h0 => absurd h0 hr2, PD.writes_ans hb2, fun hu => absurd (PD.writes_up (PD.writes_up hu hb1).2 hb2).1 hr2⟩
  · rw [if_neg hr] at e
    rw [e]
    exact ⟨.a h1, fun h0 => absurd h0 hr, PD.writes_ans hb1, fun hu => absurd (PD.writes_up hu hb1).1 hr⟩
end
end Go.Proofs.Ytdkijmikafmgaaa.Dk
namespace Go.Proofs.Ytdkijmikafmgaaa.Dk
open Go.RowKit
set_option linter.unusedVariables false
set_option linter.unusedSimpArgs false

/-- Changes with all their bytes. -/
def padded (l : List Ch) : List Ch := l.map fun c => (c.1, pad c.2)
theorem pad_pad (b : List Int) : pad (pad b) = pad b := pad_of_full (pad_length b)
theorem padded_length (l : List Ch) : (padded l).length = l.length := List.length_map ..
theorem padded_flat (l : List Ch) : ((padded l).flatMap fun c => two c.1) = l.flatMap fun c => two c.1 := by
  unfold padded
  rw [List.flatMap_map]
theorem padded_places (l : List Ch) : placesOf (padded l) = placesOf l := by unfold placesOf; rw [padded_flat]
theorem padded_images (l : List Ch) : imagesOf (padded l) = imagesOf l := by
  rw [images_eq, images_eq, padded_places]
  congr 1
  unfold padded
  rw [List.map_map]
  exact List.map_congr_left fun c _ => pad_pad c.2
theorem padded_head (l : List Ch) : headOf (padded l) = headOf l := by
  unfold headOf sumAll
  rw [padded_images, padded_length]
theorem padded_wrote (l : List Ch) (f : Sect) : wrote (ats (padded l)) f = wrote (ats l) f := by
  induction l generalizing f with
  | nil => rfl
  | cons c r ih =>
    show wrote (((100 + c.1, pad c.2) : Ch) :: ats (padded r)) f = wrote (((100 + c.1, c.2) : Ch) :: ats r) f
    rw [wrote_cons, wrote_cons, ih, pad_pad]
theorem padded_MB (l : List Ch) (f : Sect) : MB (padded l) f = MB l f := by unfold MB Img; rw [padded_head, padded_images, padded_length]
theorem padded_MC (l : List Ch) (f : Sect) : MC (padded l) f = MC l f := by unfold MC Img; rw [padded_head, padded_images, padded_length, padded_wrote]
theorem padded_ME (l : List Ch) (f : Sect) : ME (padded l) f = ME l f := by unfold ME Img; rw [padded_head, padded_images, padded_length, padded_wrote]
theorem padded_inv {n : Nat} {l : List Ch} {f : Sect} {D : PD} (h : Inv n (padded l) f D) : Inv n l f D := by
  cases h with
  | a h => exact .a h
  | b h => exact .b (padded_MB l f ▸ h)
  | c h => exact .c (padded_MC l f ▸ h)
  | e h => exact .e (padded_ME l f ▸ h)
  | f h => exact .f (padded_wrote l f ▸ h)
section
variable {n : Nat} {l : List Ch} {f : Sect} {D : PD}
theorem padded_job (h : Job n l) : Job n (padded l) := by
  refine ⟨h.most, h.least, fun c hc => ?_, ?_, by rw [padded_length]; exact h.pos, by rw [padded_length]; exact h.le⟩
  · obtain ⟨d, hd, rfl⟩ := List.mem_map.1 hc
    obtain ⟨a, b, _⟩ := h.fit d hd
    exact ⟨a, b, by rw [pad_length]; exact Nat.le_refl _⟩
  · have e : (padded l).map (·.1) = l.map (·.1) := by unfold padded; rw [List.map_map]; rfl
    rw [e]; exact h.nodup
theorem Job.right (h : Job n l) : rightOf ((n : Int) - 100) l = true := by
  unfold rightOf
  apply decide_eq_true
  exact ⟨fun c hc => by obtain ⟨a, b, d⟩ := h.fit c hc; exact ⟨a, by omega, d⟩, h.nodup, h.pos, h.le⟩
theorem flat_get (l : List Ch) (r : List Int) : ∀ (k : Nat) (c : Ch), l[k]? = some c → ((l.flatMap fun c => two c.1) ++ r).getD (2 * k) 0 = c.1 / 256 % 256 ∧ ((l.flatMap fun c => two c.1) ++ r).getD (2 * k + 1) 0 = c.1 % 256 := by
  induction l with
  | nil => intro k c h; cases h
  | cons d l ih =>
    intro k c h
    cases k with
    | zero => obtain rfl := Option.some.inj h; exact ⟨rfl, rfl⟩
    | succ k =>
      obtain ⟨h1, h2⟩ := ih k c (by simpa using h)
      have e : ((d :: l).flatMap fun c => two c.1) ++ r = d.1 / 256 % 256 :: d.1 % 256 :: ((l.flatMap fun c => two c.1) ++ r) := rfl
      rw [e]
      refine ⟨?_, ?_⟩
      · rw [show 2 * (k + 1) = 2 * k + 1 + 1 from by omega, List.getD_cons_succ, List.getD_cons_succ]; exact h1
      · rw [show 2 * (k + 1) + 1 = 2 * k + 1 + 1 + 1 from by omega, List.getD_cons_succ, List.getD_cons_succ]; exact h2
theorem told_images (h : Job n l) : PD.told (imagesOf l) = padded l := by
  have hp := places_length h.le
  have hl := images_length l
  have e3 : (imagesOf l).getD 0 [] ++ (imagesOf l).getD 1 [] ++ (imagesOf l).getD 2 [] = placesOf l := by
    show (placesOf l).take 64 ++ ((placesOf l).take 128).drop 64 ++ ((placesOf l).take 192).drop 128 = _
    have a1 : (placesOf l).take 64 ++ ((placesOf l).take 128).drop 64 = (placesOf l).take 128 := by
      have := List.take_append_drop 64 ((placesOf l).take 128)
      rwa [List.take_take, show min 64 128 = 64 from rfl] at this
    rw [a1]
    have := List.take_append_drop 128 ((placesOf l).take 192)
    rw [List.take_take, show min 128 192 = 128 from rfl] at this
    rw [this, List.take_of_length_le (by omega)]
  unfold PD.told
  rw [e3, hl, show 3 + l.length - 3 = l.length from by omega]
  apply List.ext_getElem?
  intro k
  unfold padded
  rw [List.getElem?_map, List.getElem?_map]
  rcases Nat.lt_or_ge k l.length with hk | hk
  · have hx : l[k]? = some l[k] := List.getElem?_eq_getElem hk
    rw [List.getElem?_range hk, hx]
    simp only [Option.map_some]
    congr 1
    obtain ⟨g1, g2⟩ := flat_get l (List.replicate (192 - (l.flatMap fun c => two c.1).length) 0) k _ hx
    have e1 : PD.placed (placesOf l) k = l[k].1 := by
      unfold PD.placed placesOf
      dsimp only
      rw [g1, g2]
      obtain ⟨a, b, _⟩ := h.fit l[k] (List.getElem_mem hk)
      have := h.most
      omega
    have e2 : (imagesOf l).getD (3 + k) [] = pad l[k].2 := by
      rw [images_eq, List.getD_eq_getElem?_getD, List.getElem?_append_right (by show 3 ≤ _; omega)]
      rw [show 3 + k - List.length [(placesOf l).take 64, ((placesOf l).take 128).drop 64, ((placesOf l).take 192).drop 128] = k from by show 3 + k - 3 = k; omega, List.getElem?_map, hx]
      rfl
    rw [e1, e2]
  · rw [List.getElem?_eq_none (by simp; omega), List.getElem?_eq_none hk]
    rfl
theorem read_fine (hd : D.down = false) (hb : ∀ i, D.bad i = false) {i : Nat} (hi : i < D.n) : D.read (i : Int) = (D.now i, 0) := by
  unfold PD.read
  have ht : D.there (i : Int) = true := by rw [PD.there_iff]; omega
  rw [if_neg (by simp [hd]), if_neg (by rw [ht]; simp), Int.toNat_natCast, if_neg (by simp [hb])]
theorem now_set (h : D.Settled) (i : Nat) : D.now i = D.st i := by unfold PD.now; rw [h i]; rfl
theorem found_nought (hd : D.down = false) (hb : ∀ i, D.bad i = false) (hs : D.Settled) (hn : 0 < D.n) (h0 : D.st 0 = nought) : D.found = ([], 0) := by
  have hr := read_fine hd hb (i := 0) hn
  rw [now_set hs, h0] at hr
  have hr : D.read 0 = (nought, 0) := hr
  unfold PD.found
  rw [hr]
  dsimp only
  rw [if_neg (by decide), if_pos ?_]
  rw [Lib.strOfNums_toList]
  decide
theorem reads_all {k : Int} {rows : List (List Int)} (h : ∀ (i : Nat) b, rows[i]? = some b → D.read (k + i) = (b, 0)) : D.reads k rows.length = (rows, 0) := by
  induction rows generalizing k with
  | nil => rfl
  | cons b r ih =>
    have h0 := h 0 b rfl
    rw [show k + ((0 : Nat) : Int) = k from by omega] at h0
    have h1 := ih (k := k + 1) (fun i c hc => by
      have := h (i + 1) c (by simpa using hc)
      rwa [show k + ((i + 1 : Nat) : Int) = k + 1 + (i : Int) from by omega] at this)
    show (if (D.read k).2 = 0 then (if (D.reads (k + 1) r.length).2 = 0 then ((D.read k).1 :: (D.reads (k + 1) r.length).1, 0) else ([], (D.reads (k + 1) r.length).2)) else ([], (D.read k).2)) = _
    rw [h0, h1]; rfl
theorem head_form (l : List Ch) : ∃ t, headOf l = 82 :: 68 :: ((l.length : Int) / 256 % 256) :: ((l.length : Int) % 256) :: t := by
  unfold headOf
  dsimp only
  rw [pad_le (by simp [two])]
  exact ⟨_, rfl⟩
theorem found_job (hj : Job n l) (hd : D.down = false) (hb : ∀ i, D.bad i = false) (hs : D.Settled) (hn : D.n = n) (h0 : D.st 0 = headOf l) (hi : ∀ i, 1 ≤ i → i ≤ 3 + l.length → (imagesOf l)[i - 1]? = some (D.st i)) : D.found = (padded l, 0) := by
  have h100 := hj.least
  have hle := hj.le
  have hpos := hj.pos
  have hr := read_fine hd hb (i := 0) (by omega)
  rw [now_set hs, h0] at hr
  have hr : D.read 0 = (headOf l, 0) := hr
  obtain ⟨t, ht⟩ := head_form l
  have hrs : D.reads 1 (3 + l.length) = (imagesOf l, 0) := by
    rw [← images_length l]
    refine reads_all fun i b hb2 => ?_
    have hlt := (List.getElem?_eq_some_iff.1 hb2).1
    rw [images_length] at hlt
    have := read_fine hd hb (i := 1 + i) (by omega)
    rw [now_set hs] at this
    have h3 := hi (1 + i) (by omega) (by omega)
    rw [show 1 + i - 1 = i from by omega, hb2] at h3
    rw [show (1 : Int) + (i : Int) = ((1 + i : Nat) : Int) from by omega, this, ← Option.some.inj h3]
  have e2 : (headOf l).getD 2 0 * 256 + (headOf l).getD 3 0 = (l.length : Int) := by
    rw [ht]
    show (l.length : Int) / 256 % 256 * 256 + (l.length : Int) % 256 = _
    omega
  have e1 : (strOfNums ((headOf l).take 2)).toList = [82, 68] := by
    rw [ht, Lib.strOfNums_toList]; rfl
  unfold PD.found
  rw [hr]
  dsimp only
  rw [if_neg (by decide), if_neg (by rw [e1]; decide), e2, if_neg (by omega), Int.toNat_natCast, hrs]
  dsimp only
  rw [if_neg (by decide), told_images hj, if_neg (by rw [hn, (padded_job hj).right]; decide), padded_head, if_neg (by simp)]
theorem ends_padded {r : Int × PD} (h : Ends n (padded l) f D r) : Ends n l f D r := ⟨padded_inv h.inv, fun e => padded_wrote l f ▸ h.done e, h.ans, h.up⟩
/-- What 'Open' comes to. -/
structure Opens_ (n : Nat) (l : List Ch) (f : Sect) (D : PD) (r : Int × PD) : Prop where
  inv : Inv n l f r.2
  done : r.1 = 0 → Rests n f r.2 ∨ Rests n (wrote (ats l) f) r.2
  ans : r.1 = 0 ∨ r.1 = 40
  up : D.Up → r.1 = 0 ∧ r.2.Up
theorem open_rests (h : Rests n f D) (hn : 0 < n) (hd : D.down = false) : D.open_ = (0, D) := by
  have e := found_nought hd h.fine h.set (by rw [h.size]; exact hn) h.head
  unfold PD.open_
  dsimp only
  rw [e]; rfl
theorem head_ne (l : List Ch) : headOf l ≠ nought := by
  obtain ⟨t, ht⟩ := head_form l
  rw [ht]
  intro h
  have : (82 : Int) = 0 := by
    have e : nought = 0 :: List.replicate 63 0 := rfl
    rw [e] at h
    exact (List.cons.inj h).1
  exact absurd this (by decide)
theorem open_opens (hj : Job n l) (hs : D.Settled) (hd : D.down = false) (h : Inv n l f D) : Opens_ n l f D D.open_ := by
  have hn : 0 < n := by have := hj.least; omega
  have rest : ∀ g, Rests n g D → (g = f ∨ g = wrote (ats l) f) → Opens_ n l f D D.open_ := fun g hg hc => by
    rw [open_rests hg hn hd]
    refine ⟨h, fun _ => ?_, .inl rfl, fun hu => ⟨rfl, hu⟩⟩
    rcases hc with rfl | rfl
    · exact .inl hg
    · exact .inr hg
  have imgs : ∀ {M : Nat → List Int → Prop}, D.Mays n M → (∀ i b, M i b → Img l i b) → ∀ i, 1 ≤ i → i ≤ 3 + l.length → (imagesOf l)[i - 1]? = some (D.st i) := fun hm hi i a b => hi i _ (hm.st i) a b
  have low : ∀ {M : Nat → List Int → Prop}, D.Mays n M → D.st 0 = nought → (∀ i b, M i b → Img l i b) → ∀ i, i < 4 → InB (D.st i) := fun hm h0 hi i h4 => by
    by_cases e : i = 0
    · subst e; rw [h0]; exact nought_bytes
    · exact images_low (i := i - 1) (by omega) (imgs hm hi i (by omega) (by omega))
  have fin : D.Mays n (MC l f) → Opens_ n l f D D.open_ := fun hm => by
    have e := found_job hj hd hm.fine hs hm.size ((hm.st 0).1 rfl) (imgs hm fun i b hb => hb.2.1)
    have hne : padded l ≠ [] := fun h0 => by have := hj.pos; rw [← padded_length, h0] at this; exact absurd this (by decide)
    have e2 : D.open_ = D.finish (padded l) := by
      unfold PD.open_
      dsimp only
      rw [e]
      dsimp only
      rw [if_neg (by decide), if_neg hne]
    rw [e2]
    have h5 := ends_padded (finish_ends (padded_job hj) hs (padded_MC l f ▸ hm))
    exact ⟨h5.inv, fun h0 => .inr (h5.done h0), h5.ans, h5.up⟩
  cases h with
  | a h => exact rest f (Rests.of h hs) (.inl rfl)
  | f h => exact rest _ (Rests.of h hs) (.inr rfl)
  | c h => exact fin h
  | b h =>
    rcases (h.st 0).1 rfl with h0 | h0
    · exact rest f ⟨h.good, h.size, h.fine, hs, h0, low h h0 fun i b hb => hb.2.1, fun i hi => (h.st i).2.2 hi⟩ (.inl rfl)
    · refine fin ⟨h.good, h.size, h.fine, fun i b hb => ?_⟩
      obtain ⟨m1, m2, m3⟩ := h.may i b hb
      refine ⟨fun e => ?_, m2, fun hi => .inl (m3 hi)⟩
      subst e
      rcases hb with rfl | hb
      · exact h0
      · rw [hs 0] at hb; cases hb
  | e h =>
    rcases (h.st 0).1 rfl with h0 | h0
    · exact rest _ ⟨h.good, h.size, h.fine, hs, h0, low h h0 fun i b hb => hb.2.1, fun i hi => (h.st i).2.2 hi⟩ (.inr rfl)
    · refine fin ⟨h.good, h.size, h.fine, fun i b hb => ?_⟩
      obtain ⟨m1, m2, m3⟩ := h.may i b hb
      refine ⟨fun e => ?_, m2, fun hi => .inr (m3 hi)⟩
      subst e
      rcases hb with rfl | hb
      · exact h0
      · rw [hs 0] at hb; cases hb
theorem crash_settled (D : PD) (keep : List Bool) : (D.crash keep).Settled := fun _ => rfl
/-- A disk that a job left has bytes in its first sectors, when nothing is pending. -/
theorem Inv.low (h : Inv n l f D) (hs : D.Settled) : D.Low := by
  intro i hi
  rw [now_set hs]
  have im : ∀ {M : Nat → List Int → Prop}, D.Mays n M → (∀ b, M 0 b → b = nought ∨ b = headOf l) → (∀ i b, M i b → Img l i b) → InB (D.st i) := fun hm h0 hI => by
    by_cases e : i = 0
    · subst e
      rcases h0 _ (hm.st 0) with h1 | h1
      · rw [h1]; exact nought_bytes
      · rw [h1]; exact head_bytes l
    · exact images_low (i := i - 1) (by omega) (hI i _ (hm.st i) (by omega) (by omega))
  cases h with
  | a h => exact (h.st i).2.1 hi
  | f h => exact (h.st i).2.1 hi
  | b h => exact im h (fun b hb => hb.1 rfl) (fun i b hb => hb.2.1)
  | c h => exact im h (fun b hb => .inr (hb.1 rfl)) (fun i b hb => hb.2.1)
  | e h => exact im h (fun b hb => hb.1 rfl) (fun i b hb => hb.2.1)
theorem Inv.size (h : Inv n l f D) : D.n = n := by
  cases h with
  | a h => exact h.size
  | f h => exact h.size
  | b h => exact h.size
  | c h => exact h.size
  | e h => exact h.size
theorem Rests.lows (h : Rests n f D) : D.Low := fun i hi => by rw [now_set h.set]; exact h.low i hi
theorem Rests.rread (h : Rests n f D) (hd : D.down = false) {m : Nat} (hn : n = 100 + m) {i : Nat} (hi : i < m) : D.rread false (i : Int) = (f (100 + i), 0) ∧ (f (100 + i)).length = 64 := by
  have e : D.rread false (i : Int) = D.read (100 + (i : Int)) := by
    unfold PD.rread
    rw [if_neg (by rw [h.size]; omega), if_neg (by decide)]
  rw [e, show (100 : Int) + (i : Int) = ((100 + i : Nat) : Int) from by omega, read_fine hd h.fine (by rw [h.size]; omega), now_set h.set, h.data _ (by omega)]
  exact ⟨rfl, by rw [← h.data _ (by omega)]; exact h.good.full _⟩
end
end Go.Proofs.Ytdkijmikafmgaaa.Dk
namespace Go.Proofs.Ytdkijmikafmgaaa.Dk
set_option linter.unusedVariables false
set_option linter.unusedSimpArgs false

section
variable {n : Nat} {l : List Ch} {f : Sect} {D : PD}
/-- The power is there for k calls. -/
structure PD.Left (D : PD) (k : Nat) : Prop where
  down : D.down = false
  left : D.left = (k : Int)
theorem PD.Left.call {k : Nat} (h : D.Left (k + 1)) : D.call.Left k := by
  obtain ⟨h1, h2⟩ := h
  have h3 : D.call.down = false := by simp only [PD.call, h2]; rw [decide_eq_false_iff_not]; omega
  exact ⟨h3, by simp only [PD.call, h2]; omega⟩
theorem PD.Left.call0 (h : D.Left 0) : D.call.down = true := by
  obtain ⟨h1, h2⟩ := h
  simp only [PD.call, h2]; rw [decide_eq_true_iff]; omega
theorem PD.Left.writes : ∀ {l : List Ch} {D : PD} {k : Nat}, D.Left k → (∀ c ∈ l, 0 ≤ c.1 ∧ c.1 < D.n ∧ c.2.length ≤ 64) → (l.length < k → (D.writes l).1 = 0 ∧ (D.writes l).2.Left (k - (l.length + 1))) ∧ (k ≤ l.length → (D.writes l).1 = 40)
  | [], D, k, h, hb => by
    refine ⟨fun hk => ?_, fun hk => ?_⟩
    · obtain ⟨m, rfl⟩ : ∃ m, k = m + 1 := ⟨k - 1, by simp at hk; omega⟩
      have h1 := h.call
      have e : D.writes [] = (0, D.call.stand fun _ => true) := by
        show D.flush = _
        unfold PD.flush
        rw [if_neg (by simp [h.down]), if_neg (by simp [h1.down])]
      rw [e]
      exact ⟨rfl, h1.down, by have := h1.left; show D.call.left = _; rw [this]; simp⟩
    · obtain rfl : k = 0 := by simpa using hk
      show D.flush.1 = 40
      unfold PD.flush
      rw [if_neg (by simp [h.down]), if_pos h.call0]
  | c :: r, D, k, h, hb => by
    obtain ⟨m1, m2, m3⟩ := hb c List.mem_cons_self
    have ht : D.there c.1 = true := (PD.there_iff D c.1).2 ⟨m1, m2⟩
    cases k with
    | zero =>
      refine ⟨fun hk => by simp at hk, fun _ => ?_⟩
      have e : D.write c.1 c.2 = (40, D.call) := by
        unfold PD.write
        rw [if_neg (by simp [h.down]), if_neg (by rw [ht]; simp; omega), if_pos h.call0]
      unfold PD.writes
      rw [e]; rfl
    | succ k =>
      have h1 := h.call
      have e : D.write c.1 c.2 = (0, D.call.put c.1.toNat (pad c.2)) := by
        unfold PD.write
        rw [if_neg (by simp [h.down]), if_neg (by rw [ht]; simp; omega), if_neg (by simp [h1.down])]
      have h2 : (D.call.put c.1.toNat (pad c.2)).Left k := ⟨h1.down, h1.left⟩
      obtain ⟨q1, q2⟩ := PD.Left.writes (l := r) h2 (fun x hx => hb x (List.mem_cons_of_mem _ hx))
      have e2 : D.writes (c :: r) = (D.call.put c.1.toNat (pad c.2)).writes r := by
        show (if (D.write c.1 c.2).1 = 0 then (D.write c.1 c.2).2.writes r else D.write c.1 c.2) = _
        rw [e]; rfl
      rw [e2]
      refine ⟨fun hk => ?_, fun hk => ?_⟩
      · have := q1 (by simp at hk; omega)
        rw [List.length_cons, show k + 1 - (r.length + 1 + 1) = k - (r.length + 1) from by omega]
        exact this
      · exact q2 (by simp at hk; omega)
theorem open_mc (hj : Job n l) (hs : D.Settled) (hd : D.down = false) (hm : D.Mays n (MC l f)) : Ends n l f D D.open_ := by
  have e := found_job hj hd hm.fine hs hm.size ((hm.st 0).1 rfl) (fun i a b => (hm.st i).2.1 a b)
  have hne : padded l ≠ [] := fun h0 => by have := hj.pos; rw [← padded_length, h0] at this; exact absurd this (by decide)
  have e2 : D.open_ = D.finish (padded l) := by
    unfold PD.open_
    dsimp only
    rw [e]
    dsimp only
    rw [if_neg (by decide), if_neg hne]
  rw [e2]
  exact ends_padded (finish_ends (padded_job hj) hs (padded_MC l f ▸ hm))
/-- Cut off right behind the head: the job stands. -/
theorem doJob_cut (hj : Job n l) (h : Rests n f D) (hk : D.Left (l.length + 6)) : (D.doJob l).1 = 40 ∧ (D.doJob l).2.Mays n (MC l f) := by
  have hil := images_length l
  have hle := hj.le
  have hn := hj.least
  have hb : ∀ c ∈ PD.numbered 1 (imagesOf l), (1 ≤ c.1 ∧ c.1 ≤ 99) ∧ c.2.length = 64 := fun c hc => by
    obtain ⟨i, h1, h2⟩ := numbered_mem hc
    have hi := (List.getElem?_eq_some_iff.1 h2).1
    refine ⟨by omega, images_full hj.le _ (List.mem_of_getElem? h2)⟩
  have hb1 : ∀ c ∈ PD.numbered 1 (imagesOf l), 0 ≤ c.1 ∧ c.1 < D.n ∧ c.2.length ≤ 64 := fun c hc => by
    obtain ⟨⟨a, b⟩, c⟩ := hb c hc
    rw [h.size]
    exact ⟨by omega, by omega, by omega⟩
  have h1 : (D.writes (PD.numbered 1 (imagesOf l))).2.Mays n (MA f) := h.mays.writes fun c hc => by
    obtain ⟨⟨a, b⟩, _⟩ := hb c hc
    refine ⟨fun e => by omega, fun e => ?_, fun e => by omega⟩
    obtain ⟨i, h1, h2⟩ := numbered_mem hc
    exact pad_bytes (images_low (by omega) h2)
  have hnl : (PD.numbered 1 (imagesOf l)).length = 3 + l.length := by
    rw [← hil]
    generalize imagesOf l = bs
    generalize (1 : Int) = k
    induction bs generalizing k with
    | nil => rfl
    | cons b r ih => simp [PD.numbered, ih]
  obtain ⟨hr, hL1⟩ := (PD.Left.writes hk hb1).1 (by omega)
  rw [hnl, show l.length + 6 - (3 + l.length + 1) = 2 from by omega] at hL1
  obtain ⟨k1, k2⟩ := PD.writes_ok hr
  have him : ∀ i, 1 ≤ i → i ≤ 3 + l.length → (imagesOf l)[i - 1]? = some ((D.writes (PD.numbered 1 (imagesOf l))).2.st i) := fun i h1 h2 => by
    have hx : (imagesOf l)[i - 1]? = some (imagesOf l)[i - 1] := List.getElem?_eq_getElem (by omega)
    rw [k2, hx, wrote_mem (numbered_nodup 1 _) (numbered_at hx) (by omega), PD_pad hj hx]
  have h2 : (D.writes (PD.numbered 1 (imagesOf l))).2.Mays n (MB l f) := ⟨h1.good, h1.size, h1.fine, fun i b hb => by
    obtain ⟨m1, _, m2⟩ := h1.may i b hb
    refine ⟨fun e => .inl (m1 e), fun a1 a2 => ?_, m2⟩
    rcases hb with rfl | hb
    · exact him i a1 a2
    · rw [k1 i] at hb; cases hb⟩
  have h3 : ((D.writes (PD.numbered 1 (imagesOf l))).2.writes [(0, headOf l)]).2.Mays n (MB l f) := h2.writes fun c hc => by
    obtain rfl := List.mem_singleton.1 hc
    exact ⟨fun _ => .inr (pad_of_full (head_length l)), fun a => by simp at a, fun a => by simp at a⟩
  have hb2 : ∀ c ∈ [((0, headOf l) : Ch)], 0 ≤ c.1 ∧ c.1 < (D.writes (PD.numbered 1 (imagesOf l))).2.n ∧ c.2.length ≤ 64 := fun c hc => by
    obtain rfl := List.mem_singleton.1 hc
    exact ⟨Int.le_refl _, by rw [h1.size]; show (0 : Int) < _; omega, by rw [head_length]; exact Nat.le_refl _⟩
  obtain ⟨hr2, hL2⟩ := (PD.Left.writes hL1 hb2).1 (by show 1 < 2; decide)
  obtain ⟨q1, q2⟩ := PD.writes_ok hr2
  have h4 : ((D.writes (PD.numbered 1 (imagesOf l))).2.writes [(0, headOf l)]).2.Mays n (MC l f) := ⟨h3.good, h3.size, h3.fine, fun i b hb => by
    obtain ⟨m1, m2, m3⟩ := h3.may i b hb
    refine ⟨fun e => ?_, m2, fun hi => .inl (m3 hi)⟩
    rcases hb with rfl | hb
    · rw [e, q2, wrote_mem (c := (0, headOf l)) (by simp) (by simp) rfl, pad_of_full (head_length l)]
    · rw [q1 i] at hb; cases hb⟩
  have e : D.doJob l = if (D.writes (PD.numbered 1 (imagesOf l))).1 = 0 then (if ((D.writes (PD.numbered 1 (imagesOf l))).2.writes [(0, headOf l)]).1 = 0 then ((D.writes (PD.numbered 1 (imagesOf l))).2.writes [(0, headOf l)]).2.finish l else (D.writes (PD.numbered 1 (imagesOf l))).2.writes [(0, headOf l)]) else D.writes (PD.numbered 1 (imagesOf l)) := rfl
  rw [if_pos hr, if_pos hr2] at e
  rw [e]
  generalize ((D.writes (PD.numbered 1 (imagesOf l))).2.writes [(0, headOf l)]).2 = D2 at *
  have hb3 : ∀ c ∈ ats l, 0 ≤ c.1 ∧ c.1 < D2.n ∧ c.2.length ≤ 64 := fun c hc => by
    obtain ⟨d, hd, h1, h2⟩ := ats_mem hc
    obtain ⟨a, b, c⟩ := hj.fit d hd
    rw [h4.size, h1, h2]
    exact ⟨by omega, by omega, c⟩
  have hr3 := (PD.Left.writes hL2 hb3).2 (by show 0 ≤ _; omega)
  have e3 : D2.finish l = D2.writes (ats l) := by
    show (if (D2.writes (ats l)).1 = 0 then _ else _) = _
    rw [if_neg (by rw [hr3]; decide)]; rfl
  rw [e3]
  refine ⟨hr3, h4.writes fun c hc => ?_⟩
  obtain ⟨d, hd, e1, e2⟩ := ats_mem hc
  have h0 := (hj.fit d hd).1
  rw [e1, e2]
  exact ⟨fun e => by omega, fun a b => by omega, fun _ => .inr (wrote_data hj hd).symm⟩
end
end Go.Proofs.Ytdkijmikafmgaaa.Dk
namespace Go.Proofs.Ytdkijmikafmgaaa.Dk
set_option linter.unusedVariables false
set_option linter.unusedSimpArgs false

def secs (n : Nat) : Nat := (n + 63) / 64
def chunk (b : List Int) (k : Nat) : List Int := (b.drop (64 * k)).take 64
/-- A put's changes. -/
def changesOf (s : Int) (b : List Int) : List Ch := if b = [] then [(64 * s, [])] else (64 * s, [83, 76] ++ two b.length) :: (List.range (secs b.length)).map fun k : Nat => (64 * s + 1 + (k : Int), chunk b k)
def allOf (l : List Ch) : List Ch := l.flatMap fun p => changesOf p.1 p.2
/-- Are puts right, with m slots? -/
def putsOk (m : Int) (l : List Ch) : Bool := decide ((∀ p ∈ l, 0 ≤ p.1 ∧ p.1 < m ∧ p.2.length ≤ 4000) ∧ (l.map (·.1)).Nodup)
/-- '(*Slots).Do': the answer, the disk, is the journal broken. -/
def PD.sdo (D : PD) (br : Bool) (l : List Ch) : Int × PD × Bool :=
  if putsOk (((D.n : Int) - 100) / 64) l = false then (10, D, br) else if l = [] then (10, D, br) else if 96 < (allOf l).length then (23, D, br) else D.do_ br (allOf l)
/-- A slot's record. -/
structure SlotIs (f : Sect) (i : Nat) (b : List Int) : Prop where
  le : b.length ≤ 4000
  head : f (100 + 64 * i) = pad (if b = [] then [] else [83, 76] ++ two b.length)
  rest : ∀ k, k < secs b.length → f (100 + (64 * i + 1 + k)) = pad (chunk b k)
theorem SlotIs.none (i : Nat) : SlotIs (fun _ => nought) i [] := ⟨by simp, rfl, fun k hk => by simp [secs] at hk⟩
theorem secs_le {n : Nat} (h : n ≤ 4000) : secs n ≤ 63 := by unfold secs; omega
theorem chunk_length {b : List Int} {k : Nat} (hk : k < secs b.length) : (chunk b k).length = min 64 (b.length - 64 * k) := by
  unfold chunk; rw [List.length_take, List.length_drop]
theorem changes_range {s : Int} {b : List Int} (hb : b.length ≤ 4000) {c : Ch} (hc : c ∈ changesOf s b) : 64 * s ≤ c.1 ∧ c.1 ≤ 64 * s + 63 ∧ c.2.length ≤ 64 := by
  unfold changesOf at hc
  split at hc
  · rw [List.mem_singleton.1 hc]; exact ⟨Int.le_refl _, by show 64 * s ≤ _; omega, by simp⟩
  · rcases List.mem_cons.1 hc with rfl | hc
    · exact ⟨Int.le_refl _, by show 64 * s ≤ _; omega, by simp [two]⟩
    · obtain ⟨k, hk, rfl⟩ := List.mem_map.1 hc
      have hk := List.mem_range.1 hk
      have := secs_le hb
      exact ⟨by show 64 * s ≤ 64 * s + 1 + (k : Int); omega, by show 64 * s + 1 + (k : Int) ≤ _; omega, by show (chunk b k).length ≤ 64; rw [chunk_length hk]; omega⟩
theorem changes_nodup (s : Int) (b : List Int) : ((changesOf s b).map (·.1)).Nodup := by
  unfold changesOf
  split
  · simp
  · rw [List.map_cons, List.nodup_cons]
    refine ⟨fun h => ?_, ?_⟩
    · obtain ⟨c, hc, e⟩ := List.mem_map.1 h
      obtain ⟨k, _, rfl⟩ := List.mem_map.1 hc
      have e : 64 * s + 1 + (k : Int) = 64 * s := e
      omega
    · rw [List.map_map]
      unfold List.Nodup
      rw [List.pairwise_map]
      exact (List.nodup_range (n := secs b.length)).imp fun {a c} hac e => hac (by
        have e : 64 * s + 1 + (a : Int) = 64 * s + 1 + (c : Int) := e
        omega)
theorem changes_pos (s : Int) (b : List Int) : 1 ≤ (changesOf s b).length := by
  unfold changesOf
  split
  · exact Nat.le_refl _
  · simp
theorem allOf_cons (p : Ch) (l : List Ch) : allOf (p :: l) = changesOf p.1 p.2 ++ allOf l := rfl
theorem putsOk_props {m : Int} {l : List Ch} (h : putsOk m l = true) : (∀ p ∈ l, 0 ≤ p.1 ∧ p.1 < m ∧ p.2.length ≤ 4000) ∧ (l.map (·.1)).Nodup := of_decide_eq_true h
/-- All changes of right puts are a job. -/
theorem all_job {n : Nat} {l : List Ch} (hn : n ≤ 4096) (h100 : 100 < n) (h : putsOk (((n : Int) - 100) / 64) l = true) (hne : l ≠ []) (h96 : (allOf l).length ≤ 96) : Job n (allOf l) := by
  obtain ⟨h1, h2⟩ := putsOk_props h
  refine ⟨hn, h100, fun c hc => ?_, ?_, ?_, h96⟩
  · obtain ⟨p, hp, hc⟩ := List.mem_flatMap.1 hc
    obtain ⟨a, b, d⟩ := h1 p hp
    obtain ⟨x, y, z⟩ := changes_range d hc
    exact ⟨by omega, by omega, z⟩
  · clear hne h96 h
    induction l with
    | nil => exact List.nodup_nil
    | cons p r ih =>
      rw [allOf_cons, List.map_append, List.nodup_append]
      rw [List.map_cons, List.nodup_cons] at h2
      refine ⟨changes_nodup _ _, ih (fun q hq => h1 q (List.mem_cons_of_mem _ hq)) h2.2, fun a ha b hb => ?_⟩
      rintro rfl
      obtain ⟨c, hc, rfl⟩ := List.mem_map.1 ha
      obtain ⟨d, hd, e⟩ := List.mem_map.1 hb
      obtain ⟨q, hq, hd⟩ := List.mem_flatMap.1 hd
      obtain ⟨x1, x2, _⟩ := changes_range (h1 p List.mem_cons_self).2.2 hc
      obtain ⟨y1, y2, _⟩ := changes_range (h1 q (List.mem_cons_of_mem _ hq)).2.2 hd
      have hpq : p.1 = q.1 := by omega
      exact h2.1 (List.mem_map.2 ⟨q, hq, hpq.symm⟩)
  · cases l with
    | nil => exact absurd rfl hne
    | cons p r =>
      rw [allOf_cons, List.length_append]
      have := changes_pos p.1 p.2
      omega
/-- Behind puts each slot has its own record: the one that was put, or the one ahead. -/
theorem slots_done {n : Nat} {l : List Ch} {f : Sect} (hj : Job n (allOf l)) (h : putsOk (((n : Int) - 100) / 64) l = true) {i : Nat} {b : List Int} (hi : (∃ p ∈ l, p.1 = (i : Int) ∧ p.2 = b) ∨ (∀ p ∈ l, p.1 ≠ (i : Int)) ∧ SlotIs f i b) : SlotIs (wrote (ats (allOf l)) f) i b := by
  obtain ⟨h1, h2⟩ := putsOk_props h
  rcases hi with ⟨p, hp, hpi, rfl⟩ | ⟨hno, hs⟩
  · have hle := (h1 p hp).2.2
    have put : ∀ c ∈ changesOf p.1 p.2, ∀ j : Nat, c.1 = (j : Int) → wrote (ats (allOf l)) f (100 + j) = pad c.2 := fun c hc j hjj => by
      have := wrote_data (f := f) hj (d := c) (List.mem_flatMap.2 ⟨p, hp, hc⟩)
      rwa [hjj, show (100 + (j : Int)).toNat = 100 + j from by omega] at this
    refine ⟨hle, ?_, fun k hk => ?_⟩
    · by_cases he : p.2 = []
      · rw [if_pos he]
        refine put (64 * p.1, []) ?_ (64 * i) (by show 64 * p.1 = _; omega)
        unfold changesOf; rw [if_pos he]; simp
      · rw [if_neg he]
        refine put (64 * p.1, [83, 76] ++ two p.2.length) ?_ (64 * i) (by show 64 * p.1 = _; omega)
        unfold changesOf; rw [if_neg he]; simp
    · by_cases he : p.2 = []
      · rw [he] at hk; simp [secs] at hk
      · refine put (64 * p.1 + 1 + (k : Int), chunk p.2 k) ?_ (64 * i + 1 + k) (by show 64 * p.1 + 1 + (k : Int) = _; omega)
        unfold changesOf; rw [if_neg he]
        exact List.mem_cons_of_mem _ (List.mem_map.2 ⟨k, List.mem_range.2 hk, rfl⟩)
  · have off : ∀ j : Nat, 64 * i ≤ j → j ≤ 64 * i + 63 → wrote (ats (allOf l)) f (100 + j) = f (100 + j) := fun j a b => wrote_other fun c hc e => by
      obtain ⟨d, hd, e1, _⟩ := ats_mem hc
      obtain ⟨p, hp, hd⟩ := List.mem_flatMap.1 hd
      obtain ⟨x, y, _⟩ := changes_range (h1 p hp).2.2 hd
      exact hno p hp (by omega)
    have hsl := secs_le hs.le
    refine ⟨hs.le, ?_, fun k hk => ?_⟩
    · rw [off _ (by omega) (by omega)]; exact hs.head
    · rw [off _ (by omega) (by omega)]; exact hs.rest k hk
/-- The record out of its sectors. -/
theorem chunks_take (b : List Int) : (((List.range (secs b.length)).flatMap fun k => pad (chunk b k))).take b.length = b := by
  have key : ∀ j, j ≤ secs b.length → ((List.range j).flatMap fun k => pad (chunk b k)).length = 64 * j := fun j _ => by
    induction j with
    | zero => rfl
    | succ j ih => rw [List.range_succ, List.flatMap_append, List.length_append, ih (by omega)]; simp [pad_length]; omega
  have get : ∀ j, j ≤ secs b.length → ∀ t, t < 64 * j → t < b.length → ((List.range j).flatMap fun k => pad (chunk b k))[t]? = b[t]? := by
    intro j
    induction j with
    | zero => intro _ t h; omega
    | succ j ih =>
      intro hj t ht hb
      rw [List.range_succ, List.flatMap_append]
      have hl := key j (by omega)
      by_cases h : t < 64 * j
      · rw [List.getElem?_append_left (by rw [hl]; exact h), ih (by omega) t h hb]
      · rw [List.getElem?_append_right (by rw [hl]; omega), hl]
        have e : [j].flatMap (fun k => pad (chunk b k)) = pad (chunk b j) := by simp
        have hcl := chunk_length (b := b) (k := j) (by omega)
        rw [e, pad_le (by rw [hcl]; omega), List.getElem?_append_left (by rw [hcl]; omega)]
        unfold chunk
        rw [List.getElem?_take_of_lt (by omega), List.getElem?_drop]
        congr 1; omega
  apply List.ext_getElem?
  intro t
  by_cases ht : t < b.length
  · rw [List.getElem?_take_of_lt ht]
    exact get _ (Nat.le_refl _) t (by unfold secs; omega) ht
  · rw [List.getElem?_eq_none (by rw [List.length_take]; omega), List.getElem?_eq_none (by omega)]
end Go.Proofs.Ytdkijmikafmgaaa.Dk
namespace Go.Proofs.Ytdkijmikafmgaaa.Dk
open Go.RowKit Go.Maps Go.Proofs.YtdkijmikafmgaaaW.PrintWords Go.Proofs.YtdkijmikafmgaaaW.PrintLast Go.Proofs.YtdkijmikafmgaaaW.PrintMore
set_option linter.unusedVariables false
set_option linter.unusedSimpArgs false

/-- A disk of the law's own. -/
structure At (w0 w : World) (L : DL) (D : PD) : Prop where
  disk : IsDisk w L D
  new : ∀ k, L.S k → w0.heap.size ≤ k
  below : Below w0.heap.size w0 w
/-- A disk of the law's own, and its journal. -/
structure Jr (w0 w : World) (L : DL) (D : PD) (q : Nat) (br : Bool) : Prop where
  disk : IsDisk w L D
  redo : IsRedo w q L br
  new : ∀ k, RS L q k → w0.heap.size ≤ k
  below : Below w0.heap.size w0 w
section
variable {w0 w w' : World} {L : DL} {D D' : PD} {q : Nat} {br br' : Bool} {e : Int}
theorem At.step (h : At w0 w L D) (hb : Below w.heap.size w w') : At w0 w' L D := ⟨h.disk.below hb, h.new, next_new h.below hb⟩
theorem Jr.step (h : Jr w0 w L D q br) (hb : Below w.heap.size w w') : Jr w0 w' L D q br := ⟨h.disk.below hb, h.redo.only (Only.of_below hb L.S) (h.redo.apart h.disk), h.new, next_new h.below hb⟩
theorem Jr.at_ (h : Jr w0 w L D q br) : At w0 w L D := ⟨h.disk, fun k hk => h.new k (.inl hk), h.below⟩
theorem Jr.lt (h : Jr w0 w L D q br) : ∀ k, RS L q k → k < w.heap.size := fun k hk => by
  rcases hk with hk | rfl
  · exact h.disk.lt k hk
  · exact h.redo.lt
theorem New_law (w0 : World) (hb : Below w0.heap.size w0 w) {n : Nat} (h1 : 1 ≤ n) (h2 : n ≤ 4096) :
    Calls Try.prog 30 #[.int .i64 (n : Int)] w fun en w' => ∃ L : DL, en = .returned (.pointer (some ⟨L.p, 0, none⟩)) ∧ At w0 w' L (PD.new n) := by
  refine (New_good h1 h2).mono ?_
  rintro en w1 ⟨L, rfl, a, b, c⟩
  exact ⟨L, rfl, a, fun k hk => Nat.le_trans hb.size (b k hk), next_new hb c⟩
theorem Open_first (h : At w0 w L D) (h100 : 100 < D.n) (hlow : D.Low) (hr : D.open_ = (0, D')) :
    Calls Try.prog 16 #[.pointer (some ⟨L.p, 0, none⟩)] w fun en w' => ∃ q, en = .returned (.tuple #[.pointer (some ⟨q, 0, none⟩), .int .i64 0]) ∧ Jr w0 w' L D' q false := by
  refine (Open_any h.disk h100 hlow).mono ?_
  rintro en w1 ⟨hc, h2, o2⟩
  rw [hr] at hc h2
  obtain ⟨-, q, rfl, hq, hqs⟩ := hc.resolve_right (fun h => h.1 rfl)
  exact ⟨q, rfl, h2, hq, fun k hk => by
    rcases hk with hk | rfl
    · exact h.new k hk
    · exact Nat.le_trans h.below.size hqs, next_below h.below o2 h.new⟩
theorem Open_law (h : Jr w0 w L D q br) (h100 : 100 < D.n) (hlow : D.Low) (hr : D.open_ = (0, D')) :
    Calls Try.prog 16 #[.pointer (some ⟨L.p, 0, none⟩)] w fun en w' => ∃ q', en = .returned (.tuple #[.pointer (some ⟨q', 0, none⟩), .int .i64 0]) ∧ Jr w0 w' L D' q br ∧ Jr w0 w' L D' q' false ∧ Only (RS L q) w w' := by
  refine (Open_any h.disk h100 hlow).mono ?_
  rintro en w1 ⟨hc, h2, o2⟩
  rw [hr] at hc h2
  obtain ⟨-, q', rfl, hq, hqs⟩ := hc.resolve_right (fun h => h.1 rfl)
  have hb := next_below h.below o2 h.at_.new
  exact ⟨q', rfl, ⟨h2, h.redo.only o2 (h.redo.apart h.disk), h.new, hb⟩, ⟨h2, hq, fun k hk => by
    rcases hk with hk | rfl
    · exact h.new k (.inl hk)
    · exact Nat.le_trans h.below.size hqs, hb⟩, o2.mono fun k hk => .inl hk⟩
theorem Arm_law (h : Jr w0 w L D q br) (k : Int) (hk : k < 9223372036854775808) :
    Calls Try.prog 13 #[.pointer (some ⟨L.p, 0, none⟩), .int .i64 k] w fun en w' => en = .returned (.tuple #[]) ∧ Jr w0 w' L (D.arm k) q br ∧ Only (RS L q) w w' := by
  refine (Arm_any h.disk k hk).mono ?_
  rintro en w1 ⟨rfl, h1, o1⟩
  exact ⟨rfl, ⟨h1, h.redo.only o1 (h.redo.apart h.disk), h.new, next_below h.below o1 h.at_.new⟩, o1.mono fun k hk => .inl hk⟩
theorem Crash_law (h : Jr w0 w L D q br) (A : Option Addr) (c : Nat) (keep : List Bool) (hr : ∀ W, Only L.S w W → ReadBool W A keep.length keep) :
    Calls Try.prog 15 #[.pointer (some ⟨L.p, 0, none⟩), .slice A keep.length c] w fun en w' => en = .returned (.tuple #[]) ∧ Jr w0 w' L (D.crash keep) q br ∧ Only (RS L q) w w' := by
  refine (Crash_any h.disk A c keep hr).mono ?_
  rintro en w1 ⟨rfl, h1, o1⟩
  exact ⟨rfl, ⟨h1, h.redo.only o1 (h.redo.apart h.disk), h.new, next_below h.below o1 h.at_.new⟩, o1.mono fun k hk => .inl hk⟩
end
/-! The slots: a pointer to their journal. -/
def IsSlots (w : World) (s q : Nat) : Prop := w.heap[s]? = some (.cells #[.pointer (some ⟨q, 0, none⟩)] 82 (0, 0))
section
variable {w w' : World} {L : DL} {D : PD} {q s : Nat} {br : Bool}
theorem IsSlots.c0 (h : IsSlots w s q) : w.cell? ⟨s, 0, none⟩ = some (.pointer (some ⟨q, 0, none⟩)) := by rw [cell_of_row w s 0 _ _ _ h]; rfl
theorem IsSlots.lt (h : IsSlots w s q) : s < w.heap.size := (Array.getElem?_eq_some_iff.1 h).1
theorem IsSlots.only {S : Nat → Prop} (h : IsSlots w s q) (ho : Only S w w') (hs : ¬ S s) : IsSlots w' s q := (ho.block s h.lt hs).trans h
/-- The slots' block is none of the disk's and of the journal's. -/
theorem IsSlots.apart (h : IsSlots w s q) (hr : IsRedo w q L br) (hd : IsDisk w L D) : ¬ RS L q s := by
  have h := h
  unfold IsSlots at h
  rintro ((rfl | rfl | rfl | rfl) | rfl)
  · rw [hd.self] at h; injection h with h; injection h with h1 h2; exact absurd h2 (by decide)
  · obtain ⟨cs, h1, _⟩ := hd.stands; rw [h1] at h; injection h with h; injection h with h1 h2; exact absurd h2 (by decide)
  · obtain ⟨_, _, ⟨es2, c2, hp, _⟩, _⟩ := hd.pend; rw [hp] at h; cases h
  · obtain ⟨f, ⟨_, _, ⟨es, c, hb, _⟩, _⟩, _⟩ := hd.bads; rw [hb] at h; cases h
  · unfold IsRedo at hr; rw [hr] at h; injection h with h; injection h with h1 h2; exact absurd h2 (by decide)
theorem SOpen_any (w : World) (q : Nat) : Calls Try.prog 17 #[.pointer (some ⟨q, 0, none⟩)] w fun e w' => e = .returned (.pointer (some ⟨w.heap.size, 0, none⟩)) ∧ w' = w.alloc (.cells #[.pointer (some ⟨q, 0, none⟩)] 82) := by
  go_enter Try.func17, Try.ntmps17
  go_wp2_with fail
  go_ret
  exact ⟨rfl, rfl⟩
theorem SLen_any (hs : IsSlots w s q) (hd : IsDisk w L D) (hr : IsRedo w q L br) {m : Nat} (hm : ((D.n : Int) - 100) = 64 * (m : Int)) :
    Calls Try.prog 20 #[.pointer (some ⟨s, 0, none⟩)] w fun e w' => e = .returned (.int .i64 (m : Int)) ∧ w = w' := by
  have c0 := hs.c0
  have hn := hd.good.most
  have HL := Fact.mk (RLen_any hd hr)
  rw [hm] at HL
  clear hs hd hr
  go_enter Try.func20, Try.ntmps20
  go_wp2_with fail
  refine HL.out.mono ?_
  rintro e w0 ⟨rfl, rfl⟩
  clear HL
  go_wp2_with fail
  go_ret
  refine ⟨?_, rfl⟩
  congr 1
  try omega
theorem Sthere_any (hs : IsSlots w s q) (hd : IsDisk w L D) (hr : IsRedo w q L br) {m : Nat} (hm : ((D.n : Int) - 100) = 64 * (m : Int)) (i : Int) :
    Calls Try.prog 31 #[.pointer (some ⟨s, 0, none⟩), .int .i64 i] w fun e w' => e = .returned (.bool (decide (0 ≤ i ∧ i < (m : Int)))) ∧ w = w' := by
  have HL := Fact.mk (SLen_any hs hd hr hm)
  clear hs hd hr
  by_cases h : 0 ≤ i
  · go_enter Try.func31, Try.ntmps31
    go_wp2_with fail
    refine HL.out.mono ?_
    rintro e w0 ⟨rfl, rfl⟩
    go_wp2_with fail
    go_ret
    refine ⟨ret_bool (Bool.eq_iff_iff.2 ?_), rfl⟩
    simp [h]
  · go_enter Try.func31, Try.ntmps31
    go_wp2_with fail
    go_ret
    refine ⟨ret_bool (Bool.eq_iff_iff.2 ?_), rfl⟩
    have hf : decide (0 ≤ i) = false := decide_eq_false (by omega)
    simp [hf]
theorem secs_any (n : Nat) (hn : n ≤ 100000) (w : World) : Calls Try.prog 35 #[.int .i64 (n : Int)] w fun e w' => e = .returned (.int .i64 (secs n : Int)) ∧ w = w' := by
  go_enter Try.func35, Try.ntmps35
  go_wp2_with fail
  go_ret
  refine ⟨?_, rfl⟩
  show Ending.returned (.int .i64 (((n : Int) + 64 - 1) / 64)) = _
  congr 2
  unfold secs
  omega
end
end Go.Proofs.Ytdkijmikafmgaaa.Dk
namespace Go.Proofs.Ytdkijmikafmgaaa.Dk
open Go.RowKit Go.Maps Go.Proofs.YtdkijmikafmgaaaW.PrintWords Go.Proofs.YtdkijmikafmgaaaW.PrintLast Go.Proofs.YtdkijmikafmgaaaW.PrintMore
set_option linter.unusedVariables false
set_option linter.unusedSimpArgs false

section
variable {w w' : World} {L : DL} {D : PD} {q s : Nat}
def hdOf (n : Nat) : List Int := pad (if n = 0 then [] else [83, 76] ++ two (n : Int))
theorem hdOf_length (n : Nat) : (hdOf n).length = 64 := pad_length _
theorem hd_full {n : Nat} (h0 : n ≠ 0) (hn : n ≤ 4000) : ∃ t, hdOf n = 83 :: 76 :: ((n : Int) / 256) :: ((n : Int) % 256) :: t := by
  unfold hdOf
  rw [if_neg h0, pad_le (by simp [two])]
  refine ⟨List.replicate 60 0, ?_⟩
  have e : two (n : Int) = [(n : Int) / 256, (n : Int) % 256] := by unfold two; congr 1; omega
  rw [e]; rfl
theorem str_SL {n : Nat} (h0 : n ≠ 0) (hn : n ≤ 4000) : ((strOfNums ((hdOf n).take 2)).toList == [83, 76]) = true := by
  obtain ⟨t, e⟩ := hd_full h0 hn
  rw [e, Lib.strOfNums_toList]; rfl
theorem str_none : ((strOfNums ((hdOf 0).take 2)).toList == [83, 76]) = false := by
  rw [Lib.strOfNums_toList]; rfl
set_option maxHeartbeats 1000000 in
set_option maxRecDepth 100000 in
theorem Slength_any (hs : IsSlots w s q) (hd : IsDisk w L D) (hr : IsRedo w q L false) (i n : Nat) (hn : n ≤ 4000) (hi : i ≤ 100) (hrd : D.rread false (64 * (i : Int)) = (hdOf n, 0)) :
    Calls Try.prog 34 #[.pointer (some ⟨s, 0, none⟩), .int .i64 (i : Int)] w fun e w' => e = .returned (.tuple #[.int .i64 (n : Int), .int .i64 0]) ∧ Below w.heap.size w w' := by
  have c0 := hs.c0
  have HRd := RRead_any hd hr (64 * (i : Int))
  rw [hrd] at HRd
  have HRd := Fact.mk HRd
  clear hs hd hr hrd
  go_enter Try.func34, Try.ntmps34
  go_wp2_with fail
  refine HRd.out.mono ?_
  rintro e w1 ⟨v, rfl, r1, b1⟩
  obtain ⟨A4, c4, rfl, hc4, -⟩ := Kd.R_reads r1
  rw [hdOf_length] at hc4 ⊢
  have R1 := Fact.mk r1
  have B1 := Fact.mk b1
  clear r1 b1 HRd
  have hcv : (convert 37 9 (.slice A4 2 c4)).run Try.prog w1 = .ok (.string (strOfNums ((hdOf n).take 2))) w1 :=
    Kd.C_string Try.underlying37 Try.underlying5 Try.underlying9 (C_take (own_reads_ R1.out).2.2 (m := 2) (by rw [hdOf_length]; decide))
  by_cases h0 : n = 0
  · subst h0
    have hq := str_none
    generalize strOfNums ((hdOf 0).take 2) = s0 at *
    go_wp2_with fail
    go_ret2
    exact ⟨rfl, B1.out⟩
  · have hq := str_SL h0 hn
    generalize strOfNums ((hdOf n).take 2) = s0 at *
    obtain ⟨g4, c4', e4, -, -⟩ := (Kd.own_of_R R1.out).form (by rw [hdOf_length]; decide)
    injection e4 with e4 e6 e5
    clear e6
    subst e4 e5
    obtain ⟨t, ht⟩ := hd_full h0 hn
    have k2 := own_cell R1.out 2 ((n : Int) / 256) (by rw [ht]; rfl)
    have k3 := own_cell R1.out 3 ((n : Int) % 256) (by rw [ht]; rfl)
    have r2 : 0 ≤ (n : Int) / 256 ∧ (n : Int) / 256 < 256 := by omega
    have r3 : 0 ≤ (n : Int) % 256 ∧ (n : Int) % 256 < 256 := by omega
    have hnn : (n : Int) / 256 * 256 + (n : Int) % 256 = (n : Int) := by omega
    clear ht
    have hnn := Fact.mk hnn
    go_wp2_with fail
    generalize (n : Int) / 256 = y2 at *
    generalize (n : Int) % 256 = y3 at *
    refine region_tail 10 (by kernel_rfl) (by kernel_rfl) ?_
    intro W hW
    have BW : Fact (Below w.heap.size w W) := by subst hW; exact ⟨B1.out.drew⟩
    replace k2 : W.cell? ⟨g4, 2, none⟩ = some (.int .u8 y2) := by subst hW; exact k2
    replace k3 : W.cell? ⟨g4, 3, none⟩ = some (.int .u8 y3) := by subst hW; exact k3
    clear hW B1 R1 hcv
    clear w1
    simp only [List.take_succ_cons, List.take_zero, List.drop_succ_cons, List.drop_zero]
    iterate 10 still_step
    refine wpStill_nil ?_
    rw [show IntKind.i64.wrap y2 = y2 from IntWalk.i64_in _ (by omega), show IntKind.i64.wrap y3 = y3 from IntWalk.i64_in _ (by omega), show IntKind.i64.wrap (y2 * 256) = y2 * 256 from IntWalk.i64_in _ (by omega), or_bytes y2 y3 r2 r3, hnn.out]
    clear k2 k3 r2 r3 hnn
    have hn2 : ¬ (4000 : Int) < (n : Int) := by omega
    go_wp2_with fail
    go_ret2
    exact ⟨rfl, BW.out⟩
/-- What 'Get' tells. -/
def GetTo (w : World) (b : List Int) (e : Ending) (w' : World) : Prop :=
  (b = [] ∧ e = .returned (.tuple #[.slice none 0 0, .int .i64 43]) ∨ b ≠ [] ∧ ∃ g c out, e = .returned (.tuple #[.slice (some ⟨g, 0, none⟩) b.length b.length, .int .i64 0]) ∧ OwnB w' w.heap.size (fun k => w.heap.size ≤ k) (.slice (some ⟨g, 0, none⟩) out.length c) out ∧ out.take b.length = b ∧ b.length ≤ out.length) ∧ Below w.heap.size w w'
def outOf (b : List Int) (j : Nat) : List Int := (List.range j).flatMap fun k => pad (chunk b k)
theorem outOf_step (b : List Int) (j : Nat) : outOf b (j + 1) = outOf b j ++ pad (chunk b j) := by
  unfold outOf
  rw [List.range_succ, List.flatMap_append]
  simp
theorem outOf_length (b : List Int) (j : Nat) : (outOf b j).length = 64 * j := by
  induction j with
  | zero => rfl
  | succ j ih => rw [outOf_step, List.length_append, ih, pad_length]; omega
set_option maxHeartbeats 1000000 in
set_option maxRecDepth 100000 in
theorem Get_any (hs : IsSlots w s q) (hd : IsDisk w L D) (hr : IsRedo w q L false) {m : Nat} (hm : ((D.n : Int) - 100) = 64 * (m : Int)) (i : Nat) (hi : i < m) (b : List Int) (hb : b.length ≤ 4000) (hrd : D.rread false (64 * (i : Int)) = (hdOf b.length, 0)) (hrs : ∀ k, k < secs b.length → D.rread false (64 * (i : Int) + 1 + (k : Int)) = (pad (chunk b k), 0)) :
    Calls Try.prog 12 #[.pointer (some ⟨s, 0, none⟩), .int .i64 (i : Int)] w (GetTo w b) := by
  have hn := hd.good.most
  have hm100 : m ≤ 100 := by omega
  have HS := Fact.mk hs
  have HD := Fact.mk hd
  have HR := Fact.mk hr
  have HQ := Fact.mk (hs.apart hr hd)
  have HQ2 := Fact.mk (hr.apart hd)
  have HT := Sthere_any hs hd hr hm (i : Int)
  rw [decide_eq_true (show 0 ≤ (i : Int) ∧ (i : Int) < (m : Int) by omega)] at HT
  have HT := Fact.mk HT
  have HL := Fact.mk (Slength_any hs hd hr i b.length hb (by omega) hrd)
  have HRs := Fact.mk hrs
  clear hs hd hr hrd hrs
  go_enter Try.func12, Try.ntmps12
  go_wp2_with fail
  refine HT.out.mono ?_
  rintro e w0 ⟨rfl, rfl⟩
  clear HT
  go_wp2_with fail
  refine HL.out.mono ?_
  rintro e w1 ⟨rfl, b1⟩
  have B1 := Fact.mk b1
  clear HL b1
  by_cases h0 : b = []
  · subst h0
    simp only [List.length_nil]
    go_wp2_with fail
    go_ret2
    exact ⟨.inl ⟨rfl, rfl⟩, B1.out⟩
  · have hbl : 0 < b.length := List.length_pos_iff.2 h0
    have hbl2 : ¬ ((b.length : Int) = 0) := by omega
    go_wp2_with fail
    refine (secs_any b.length (by omega) w1).mono ?_
    rintro e w2 ⟨rfl, rfl⟩
    have hsl := secs_le hb
    have I0 : Fact (OwnB w1 w.heap.size (fun k => w.heap.size ≤ k) (.slice none 0 0) (outOf b 0)) := ⟨Kd.R_nil _ _ _ _ _⟩
    go_wp2_with fail
    go_loopw [8, 31] (fun v8 v31 wr => ∃ j : Nat, v31 = .int .i64 (j : Int) ∧ j ≤ secs b.length ∧ Fact (OwnB wr w.heap.size (fun k => w.heap.size ≤ k) v8 (outOf b j)) ∧ Fact (Below w.heap.size w wr)) (fun _ v _ => secs b.length - (intOf v).toNat)
    case atStart => exact ⟨0, rfl, Nat.zero_le _, I0, B1⟩
    case round =>
      obtain ⟨j, rfl, hj, R1, R2⟩ := hrel
      clear I0 B1
      obtain ⟨A8, c8, rfl, -, -⟩ := Kd.R_reads R1.out
      by_cases hlt : j < secs b.length
      · have hlt2 : (j : Int) < (secs b.length : Int) := by omega
        have c0 := (HS.out.only (Only.of_below R2.out (RS L q)) HQ.out).c0
        have HRd := RRead_any (HD.out.below R2.out) (HR.out.only (Only.of_below R2.out L.S) HQ2.out) (64 * (i : Int) + 1 + (j : Int))
        rw [HRs.out j hlt] at HRd
        have HRd := Fact.mk HRd
        have hlo := outOf_length b j
        have HO := Fact.mk (outOf_step b j)
        have HPl := Fact.mk (pad_length (chunk b j))
        rw [hlo] at R1 ⊢
        generalize pad (chunk b j) = pc at *
        generalize outOf b j = oj at *
        go_wp2_with fail
        refine HRd.out.mono ?_
        rintro e w3 ⟨v, rfl, r3, b3⟩
        obtain ⟨A9, c9, rfl, hc9, hrdd⟩ := Kd.R_reads r3
        rw [HPl.out] at hrdd hc9 ⊢
        have R9 := Fact.mk hrdd
        have B3 := Fact.mk (next_new R2.out b3)
        have R3 := Fact.mk (Kd.R_below (Kd.R_mono R1.out (fun _ h => h)) b3)
        clear r3 b3 hrdd HRd R1
        go_wp2_with ((with_reducible refine gate_builtin (b := .append) (xs := #[.tmp 50, .tmp 51]) rfl ?_); at_builtin; refine Fact.out (p := _) ?_)
        refine Fact.mk ?_
        refine Kd.R_append_rows (Kd.int .u8) (w0 := w) w.heap.size rfl (.tmp 50) (.tmp 51) 37 5 (.int .u8 0) 1 rfl Try.underlying37 info_u8 rfl (by decide) (by omega) (.slice A8 (64 * j) c8) oj pc A9 64 c9 (fun k => w.heap.size ≤ k) (fun _ => False) rfl rfl ?aO ?aR (fun _ _ h => h) (fun _ h => h.elim) ?aF ?aB ?aS ?aL ?_
        case aO => exact R3.out
        case aR => exact R9.out
        case aF => intro k hk; have := B3.out.size; omega
        case aB => exact B3.out
        case aS => exact B3.out.size
        case aL => have h1 := (own_reads_ R3.out).1; omega
        intro v1 w5 ho hb hg hat
        have HO5 := Fact.mk ho
        have HB5 := Fact.mk hb
        clear ho hb hg hat
        go_wp2_with fail
        exact ⟨⟨j + 1, by go_num, by omega, ⟨by rw [HO.out]; exact HO5.out⟩, HB5⟩, by simp [intOf]; omega⟩
      · have he : j = secs b.length := by omega
        subst he
        have hlt2 : ¬ ((secs b.length : Int) < (secs b.length : Int)) := by omega
        have hlo := outOf_length b (secs b.length)
        have hs64 : b.length ≤ 64 * secs b.length := by unfold secs; omega
        have hso : (outOf b (secs b.length)).take b.length = b := chunks_take b
        replace hso := Fact.mk hso
        obtain ⟨g, c', e8, hcc, -⟩ := (Kd.own_of_R R1.out).form (by rw [hlo]; omega)
        injection e8 with e8 e9 e10
        clear e9
        subst e8 e10
        have hc8 : 64 * secs b.length ≤ c8 := by have h := own_reads_ R1.out; omega
        have R1b := Fact.mk R1.out
        rw [hlo]
        clear R1
        go_wp2_with fail
        go_ret2
        refine ⟨.inr ⟨h0, g, c8, _, rfl, R1b.out, hso.out, by rw [hlo]; exact hs64⟩, R2.out⟩
end
end Go.Proofs.Ytdkijmikafmgaaa.Dk
namespace Go.Proofs.Ytdkijmikafmgaaa.Dk
open Go.RowKit Go.Maps Go.Proofs.YtdkijmikafmgaaaW.PrintWords Go.Proofs.YtdkijmikafmgaaaW.PrintLast Go.Proofs.YtdkijmikafmgaaaW.PrintMore
set_option linter.unusedVariables false
set_option linter.unusedSimpArgs false

theorem addr_add2 (a : Addr) (i j : Nat) : (a.add i).add j = a.add (i + j) := by
  unfold Addr.add
  by_cases hi : i = 0 <;> by_cases hj : j = 0 <;> simp [hi, hj, Nat.add_assoc]
theorem C_part {w : World} {ad : Addr} {n : Nat} {l : List Int} (h : ReadB w (some ad) n l) {lo k : Nat} (hk : lo + k ≤ n) : ReadB w (some (ad.add lo)) k ((l.drop lo).take k) := by
  refine ⟨by rw [List.length_take, List.length_drop]; have := h.1; omega, by have := h.2.1; omega, fun hp => ?_⟩
  obtain ⟨ad', e, hc⟩ := h.2.2 (by omega)
  injection e with e
  subst e
  refine ⟨_, rfl, fun j x hx => ?_⟩
  have hj : j < k := by
    have := (List.getElem?_eq_some_iff.1 hx).1
    rw [List.length_take] at this; omega
  have hx2 : l[lo + j]? = some x := by rw [List.getElem?_take_of_lt hj, List.getElem?_drop] at hx; exact hx
  obtain ⟨c, h1, h2, h3⟩ := hc (lo + j) x hx2
  refine ⟨c, h1, h2, fun i u hu => ?_⟩
  have h4 := h3 i u hu
  rw [addr_add2]
  have e : (lo + j) * (Kd.int .u8).sz + i = lo + (j * (Kd.int .u8).sz + i) := by show (lo + j) * 1 + i = lo + (j * 1 + i); omega
  rwa [e] at h4
theorem Sees_part {S : Nat → Prop} {w : World} {ad : Addr} {n c : Nat} {b : List Int} (h : Sees S w ⟨some ad, n, c⟩ b) {lo k : Nat} (hk : lo + k ≤ b.length) : Sees S w ⟨some (ad.add lo), k, c - lo⟩ ((b.drop lo).take k) := by
  have hc := h.c
  have hl : ((b.drop lo).take k).length = k := by rw [List.length_take, List.length_drop]; omega
  refine ⟨hl.symm, by rw [hl]; show k ≤ c - lo; have : b.length ≤ c := hc; omega, fun w' ho => ?_⟩
  rw [hl]
  exact C_part (h.reads w' ho) hk
/-- Rows by their words: each of an argument's, or a row of bytes of one's own. -/
def El (S : Nat → Prop) (w0 w : World) (base : Nat) (v : Int × SV) (x : Ch) : Prop := v.1 = x.1 ∧ (Sees S w0 v.2 x.2 ∨ BRow w base v.2 x.2)
def Els (S : Nat → Prop) (w0 w : World) (base : Nat) (l : List Ch) (vs : List (Int × SV)) : Prop := ∀ (i : Nat) v x, vs[i]? = some v → l[i]? = some x → El S w0 w base v x
theorem El.u8 {S : Nat → Prop} {w0 w w' : World} {base : Nat} {v : Int × SV} {x : Ch} (h : El S w0 w base v x) (hu : U8 w w') : El S w0 w' base v x := ⟨h.1, h.2.imp id (fun h => h.u8 hu)⟩
theorem El.lower {S : Nat → Prop} {w0 w : World} {base base' : Nat} {v : Int × SV} {x : Ch} (h : El S w0 w base v x) (hb : base' ≤ base) : El S w0 w base' v x := ⟨h.1, h.2.imp id (fun h => h.lower hb)⟩
theorem Els.u8 {S : Nat → Prop} {w0 w w' : World} {base : Nat} {l : List Ch} {vs : List (Int × SV)} (h : Els S w0 w base l vs) (hu : U8 w w') : Els S w0 w' base l vs := fun i v x a b => (h i v x a b).u8 hu
theorem Els.snoc {S : Nat → Prop} {w0 w : World} {base : Nat} {l : List Ch} {vs : List (Int × SV)} (h : Els S w0 w base l vs) {j : Nat} (hj : vs.length = j) {x : Ch} (hx : l[j]? = some x) {v : Int × SV} (hv : El S w0 w base v x) : Els S w0 w base l (vs ++ [v]) := by
  intro i v' y hv' hy
  rcases Nat.lt_trichotomy i vs.length with hi | hi | hi
  · rw [List.getElem?_append_left hi] at hv'; exact h i v' y hv' hy
  · subst hi; subst hj
    rw [List.getElem?_append_right (Nat.le_refl _), Nat.sub_self] at hv'
    obtain rfl := Option.some.inj hv'
    rw [hx] at hy
    obtain rfl := Option.some.inj hy
    exact hv
  · rw [List.getElem?_eq_none (by simp; omega)] at hv'; cases hv'
theorem El.sees {S : Nat → Prop} {w0 w : World} {v : Int × SV} {x : Ch} (h : El S w0 w w0.heap.size v x) (hb : Below w0.heap.size w0 w) (hS : ∀ k, S k → k < w0.heap.size) : v.1 = x.1 ∧ Sees S w v.2 x.2 :=
  ⟨h.1, h.2.elim (fun h => h.step (Only.of_below hb S)) (fun h => h.sees hS)⟩
theorem changes_get {s : Int} {b : List Int} (hb : b ≠ []) {j : Nat} (hj : j < secs b.length) : (changesOf s b)[1 + j]? = some (64 * s + 1 + (j : Int), chunk b j) := by
  unfold changesOf
  rw [if_neg hb, Nat.add_comm, List.getElem?_cons_succ, List.getElem?_map, List.getElem?_range hj]; rfl
theorem changes_length {s : Int} {b : List Int} (hb : b ≠ []) : (changesOf s b).length = 1 + secs b.length := by
  unfold changesOf
  rw [if_neg hb, List.length_cons, List.length_map, List.length_range]; omega
/-- A new row of changes. -/
def ChsTo (S : Nat → Prop) (w0 w : World) (l : List Ch) (e : Ending) (w' : World) : Prop := ∃ A' c' vs, e = .returned (.slice A' l.length c') ∧ vs.length = l.length ∧ Kd.C chK w' A' vs.length vs ∧ Els S w0 w' w.heap.size l vs ∧ Below w.heap.size w w'
set_option maxHeartbeats 2000000 in
set_option maxRecDepth 100000 in
theorem changes_any {S : Nat → Prop} {w0 w : World} (hb0 : Below w0.heap.size w0 w) (s : Nat) (hs : s ≤ 100) (A : Option Addr) (c : Nat) (b : List Int) (hb : b.length ≤ 4000) (hsee : Sees S w0 ⟨A, b.length, c⟩ b) :
    Calls Try.prog 32 #[.agg #[.int .i64 (s : Int), .slice A b.length c]] w (ChsTo S w0 w (changesOf (s : Int) b)) := by
  have HSee := Fact.mk hsee
  have HB0 := Fact.mk hb0
  have hcc : b.length ≤ c := hsee.c
  clear hsee hb0
  go_enter Try.func32, Try.ntmps32
  go_wp2_with fail
  have hnew := heap_alloc_new w (.cells #[.int .i64 (s : Int), .slice A b.length c] 39)
  have q0 : (w.alloc (.cells #[.int .i64 (s : Int), .slice A b.length c] 39)).cell? ⟨w.heap.size, 0, none⟩ = some (.int .i64 (s : Int)) := (cell_of_row _ _ 0 _ _ _ hnew).trans rfl
  have q1 : (w.alloc (.cells #[.int .i64 (s : Int), .slice A b.length c] 39)).cell? ⟨w.heap.size, 1, none⟩ = some (.slice A b.length c) := (cell_of_row _ _ 1 _ _ _ hnew).trans rfl
  have B0 : Fact (Below w.heap.size w (w.alloc (.cells #[.int .i64 (s : Int), .slice A b.length c] 39))) := ⟨(Below.refl _ _).alloc (Nat.le_refl _) _⟩
  have hsz : (w.alloc (.cells #[.int .i64 (s : Int), .slice A b.length c] 39)).heap.size = w.heap.size + 1 := by simp
  have HN := Fact.mk hnew
  clear hnew
  generalize (w.alloc (.cells #[.int .i64 (s : Int), .slice A b.length c] 39)) = w1 at *
  skip
  refine start_ (n := 8) (S := fun w' => w'.cell? ⟨w.heap.size, 0, none⟩ = some (.int .i64 (s : Int)) ∧ w'.cell? ⟨w.heap.size, 1, none⟩ = some (.slice A b.length c)) (ds := []) #[false, false, false, false, false, false, false, false] (by kernel_rfl) rfl rfl ⟨q0, q1⟩ (fun hHeld => ?_)
  have B2 : Fact (Below w.heap.size w w1.drew) := ⟨B0.out.drew⟩
  have HN2 : Fact (w1.drew.heap[w.heap.size]? = some (.cells #[.int .i64 (s : Int), .slice A b.length c] 39 (0, 0))) := ⟨HN.out⟩
  have hsz2 : w1.drew.heap.size = w.heap.size + 1 := hsz
  clear B0 HN q0 q1 hsz
  generalize w1.drew = w2 at *
  clear w1
  refine pure_ (i := 0) (N := (some 7)) (v := ?_) (a' := ?_) #[true, false, false, false, false, false, false, false] rfl rfl (by kernel_rfl) (fun _ _ _ h => h) (Or.inl ⟨by rfl, ?_⟩) ?_ ?_
  rotate_left
  · intro w'
    go_simp
    with_reducible rfl
  rotate_left
  · simp only [Act.put, List.setIfInBounds_toArray, List.set_cons_zero, List.set_cons_succ, i64_w, i32_w]
    rfl
  refine pure_ (i := 3) (N := (some 10)) (v := ?_) (a' := ?_) #[true, false, false, true, false, false, false, false] rfl rfl (by kernel_rfl) (fun _ _ _ h => h) (Or.inl ⟨by rfl, ?_⟩) ?_ ?_
  rotate_left
  · intro w'
    go_simp
    with_reducible rfl
  rotate_left
  · simp only [Act.put, List.setIfInBounds_toArray, List.set_cons_zero, List.set_cons_succ, i64_w, i32_w]
    rfl
  refine take_ (i := 1) (N := (some 8)) (v := ?_) (a' := ?_) #[true, true, false, true, false, false, false, false] rfl rfl (by kernel_rfl) (fun _ _ _ h => h) (Or.inl ⟨by rfl, ?_⟩) hHeld ?_ ?_
  rotate_left
  · rintro w' ⟨s0, s1⟩
    go_simp
    with_reducible rfl
  rotate_left
  · simp only [Act.put, List.setIfInBounds_toArray, List.set_cons_zero, List.set_cons_succ, i64_w, i32_w]
    rfl
  refine take_ (i := 4) (N := (some 11)) (v := ?_) (a' := ?_) #[true, true, false, true, true, false, false, false] rfl rfl (by kernel_rfl) (fun _ _ _ h => h) (Or.inl ⟨by rfl, ?_⟩) hHeld ?_ ?_
  rotate_left
  · rintro w' ⟨s0, s1⟩
    go_simp
    with_reducible rfl
  rotate_left
  · simp only [Act.put, List.setIfInBounds_toArray, List.set_cons_zero, List.set_cons_succ, i64_w, i32_w]
    rfl
  refine pure_ (i := 2) (N := (some 9)) (v := .int .i64 (64 * (s : Int))) (a' := ?_) #[true, true, true, true, true, false, false, false] rfl rfl (by kernel_rfl) (fun _ _ _ h => h) (Or.inl ⟨by rfl, (fun w' => by go_simp; try exact IntWalk.i64_in _ (by omega))⟩) ?_ ?_
  rotate_left
  · simp only [Act.put, List.setIfInBounds_toArray, List.set_cons_zero, List.set_cons_succ, i64_w, i32_w]
    rfl
  refine pure_ (i := 5) (N := (some 12)) (v := ?_) (a' := ?_) #[true, true, true, true, true, true, false, false] rfl rfl (by kernel_rfl) (fun _ _ _ h => h) (Or.inl ⟨by rfl, ?_⟩) ?_ ?_
  rotate_left
  · intro w'
    go_simp
    with_reducible rfl
  rotate_left
  · simp only [Act.put, List.setIfInBounds_toArray, List.set_cons_zero, List.set_cons_succ, i64_w, i32_w]
    rfl
  refine pure_ (i := 6) (N := (some 3)) (v := ?_) (a' := ?_) #[true, true, true, true, true, true, true, false] rfl rfl (by kernel_rfl) (fun _ _ _ h => h) (Or.inl ⟨by rfl, ?_⟩) ?_ ?_
  rotate_left
  · intro w'
    go_simp
    with_reducible rfl
  rotate_left
  · simp only [Act.put, List.setIfInBounds_toArray, List.set_cons_zero, List.set_cons_succ, i64_w, i32_w]
    rfl
  refine pure_ (i := 7) (N := (some 4)) (v := ?_) (a' := ?_) #[true, true, true, true, true, true, true, true] rfl rfl (by kernel_rfl) (fun _ _ _ h => h) (Or.inl ⟨by rfl, ?_⟩) ?_ ?_
  rotate_left
  · intro w'
    go_simp
    with_reducible rfl
  rotate_left
  · simp only [Act.put, List.setIfInBounds_toArray, List.set_cons_zero, List.set_cons_succ, i64_w, i32_w]
    rfl
  refine done_ (by kernel_rfl) ?_
  clear hHeld
  replace hsz2 := Fact.mk hsz2
  by_cases h0 : b = []
  · subst h0
    have hR : Kd.R chK 111 (w2.alloc (.cells #[.int .i64 (64 * (s : Int)), .slice none 0 0] 111)) w2.heap.size (fun k => w2.heap.size ≤ k) (.slice (some ⟨w2.heap.size, 0, none⟩) 1 1) [(64 * (s : Int), ⟨none, 0, 0⟩)] :=
      ⟨fun k hk => by simp [Value.ownBlock] at hk; omega, OwnRow.lit w2 w2.heap.size (Reps.c2 (M_ch _ _ _ (64 * (s : Int)) ⟨none, 0, 0⟩) (Reps.none _ _)) (Nat.le_refl _) (by simp)⟩
    obtain ⟨Ax, cx, ex, -, hCx⟩ := Kd.R_reads hR
    injection ex with ex1 ex2 ex3
    subst ex1
    have HC := Fact.mk hCx
    clear hR hCx ex2 ex3
    simp only [List.length_nil]
    go_wp2_with fail
    go_ret
    exact ⟨_, _, _, rfl, rfl, HC.out, fun i v x hv hx => by
      have hi : i = 0 := by rcases i with _ | i; rfl; simp at hv
      subst hi
      obtain rfl := Option.some.inj hv
      obtain rfl := Option.some.inj hx
      exact ⟨rfl, .inl ⟨rfl, Nat.le_refl _, fun w' _ => ⟨rfl, by simp, fun h => absurd h (by simp)⟩⟩⟩, B2.out.alloc B2.out.size _⟩
  · have hbl : 0 < b.length := List.length_pos_iff.2 h0
    have hbl2 : ¬ ((b.length : Int) = 0) := by omega
    have hcv := const_two w2 83 76
    have hn2 : two (b.length : Int) = [(b.length : Int) / 256, (b.length : Int) % 256] := by unfold two; congr 1; omega
    go_wp2_with ((with_reducible refine gate_builtin (b := .append) (xs := #[.tmp 20, .tmp 26]) rfl ?_); at_builtin; refine Fact.out (p := _) ?_)
    clear hcv
    refine Fact.mk ?_
    have W3b : Below w2.heap.size w2 ((w2.alloc (.cells #[.int .u8 83, .int .u8 76] 5 (2, 3))).alloc (.cells #[.int .u8 ((b.length : Int) / 256), .int .u8 ((b.length : Int) % 256)] 5)) := ((Below.refl _ _).alloc (Nat.le_refl _) _).alloc (by simp) _
    have W3s : ((w2.alloc (.cells #[.int .u8 83, .int .u8 76] 5 (2, 3))).alloc (.cells #[.int .u8 ((b.length : Int) / 256), .int .u8 ((b.length : Int) % 256)] 5)).heap.size = w2.heap.size + 2 := by simp
    have hxs := Kd.C_below (reads_marked w2 83 76 (2, 3)) ((Below.refl _ _).alloc (Nat.le_refl _) (.cells #[.int .u8 ((b.length : Int) / 256), .int .u8 ((b.length : Int) % 256)] 5))
    have hys := reads_two (w2.alloc (.cells #[.int .u8 83, .int .u8 76] 5 (2, 3))) ((b.length : Int) / 256) ((b.length : Int) % 256) (w2.heap.size + 1) (by simp)
    rw [← hn2] at hys
    clear hn2
    generalize ((w2.alloc (.cells #[.int .u8 83, .int .u8 76] 5 (2, 3))).alloc (.cells #[.int .u8 ((b.length : Int) / 256), .int .u8 ((b.length : Int) % 256)] 5)) = W3 at *
    refine wpList_grow rfl (.tmp 20) (.tmp 26) 37 5 rfl Try.underlying37 info_u8 ⟨w2.heap.size, 0, none⟩ 2 2 [83, 76] rfl ⟨w2.heap.size + 1, 0, none⟩ 2 2 (two (b.length : Int)) rfl hxs hys (by omega) (by omega) ?_
    intro v3 w3 ho hb3
    obtain ⟨A3, c3, rfl⟩ := Kd.R_slice ho
    have B3 : Fact (Below w.heap.size w w3) := ⟨(B2.out.trans (W3b.mono B2.out.size)).trans (hb3.mono (by have := B2.out.size; omega))⟩
    have hw3 : w.heap.size < w3.heap.size := by have := hb3.size; have := hsz2.out; omega
    have HSd : Fact (BRow w3 w.heap.size ⟨A3, 4, c3⟩ ([83, 76] ++ two (b.length : Int))) := ⟨(BRow.of_own ho (by show 0 < 4; decide)).lower (by have := hsz2.out; omega)⟩
    have HN3 : Fact (w3.heap[w.heap.size]? = some (.cells #[.int .i64 (s : Int), .slice A b.length c] 39 (0, 0))) := ⟨(hb3.block w.heap.size (by have := hsz2.out; omega)).trans ((W3b.block w.heap.size (by have := hsz2.out; omega)).trans HN2.out)⟩
    have hl4 : ([83, 76] ++ two (b.length : Int)).length = 4 := rfl
    rw [hl4]
    replace hw3 := Fact.mk hw3
    clear ho hb3 hxs hys W3b W3s B2 HN2 hl4
    clear W3
    go_wp2_with fail
    have hR0 : Kd.R chK 111 (w3.alloc (.cells #[.int .i64 (64 * (s : Int)), .slice A3 4 c3] 111)) w3.heap.size (fun k => w3.heap.size ≤ k) (.slice (some ⟨w3.heap.size, 0, none⟩) 1 1) [(64 * (s : Int), ⟨A3, 4, c3⟩)] :=
      ⟨fun k hk => by simp [Value.ownBlock] at hk; omega, OwnRow.lit w3 w3.heap.size (Reps.c2 (M_ch _ _ _ (64 * (s : Int)) ⟨A3, 4, c3⟩) (Reps.none _ _)) (Nat.le_refl _) (by simp)⟩
    have I0 : Fact (∃ vs, vs.length = 1 + 0 ∧ Kd.R chK 111 (w3.alloc (.cells #[.int .i64 (64 * (s : Int)), .slice A3 4 c3] 111)) w3.heap.size (fun k => w3.heap.size ≤ k) (.slice (some ⟨w3.heap.size, 0, none⟩) 1 1) vs ∧ Els S w0 w3 w.heap.size (changesOf (s : Int) b) vs) := ⟨_, rfl, hR0, fun i v x hv hx => by
      have hi : i = 0 := by rcases i with _ | i; rfl; simp at hv
      subst hi
      obtain rfl := Option.some.inj hv
      unfold changesOf at hx
      rw [if_neg h0] at hx
      obtain rfl := Option.some.inj hx
      exact ⟨rfl, .inr HSd.out⟩⟩
    have U0 : Fact (U8 w3 (w3.alloc (.cells #[.int .i64 (64 * (s : Int)), .slice A3 4 c3] 111))) := ⟨U8.alloc _ _⟩
    have J0 : Fact (Below w3.heap.size w3 (w3.alloc (.cells #[.int .i64 (64 * (s : Int)), .slice A3 4 c3] 111))) := ⟨(Below.refl _ _).alloc (Nat.le_refl _) _⟩
    clear hR0
    refine (secs_any b.length (by omega) _).mono ?_
    rintro e w5 ⟨rfl, rfl⟩
    have hsl := secs_le hb
    go_wp2_with fail
    go_loopw [5, 32] (fun v5 v32 wr => ∃ j : Nat, v32 = .int .i64 (j : Int) ∧ j ≤ secs b.length ∧ Fact (∃ vs, vs.length = 1 + j ∧ Kd.R chK 111 wr w3.heap.size (fun k => w3.heap.size ≤ k) v5 vs ∧ Els S w0 w3 w.heap.size (changesOf (s : Int) b) vs) ∧ Fact (Below w3.heap.size w3 wr) ∧ Fact (U8 w3 wr)) (fun _ v _ => secs b.length - (intOf v).toNat)
    case atStart => exact ⟨0, rfl, Nat.zero_le _, I0, J0, U0⟩
    case round =>
      obtain ⟨j, rfl, hj, R1, R2, R3⟩ := hrel
      clear I0 J0 U0
      obtain ⟨vs, hvl, hV, hP⟩ := R1.out
      obtain ⟨A5, c5, rfl⟩ := Kd.R_slice hV
      rw [hvl] at hV ⊢
      have HV := Fact.mk hV
      have HP := Fact.mk hP
      replace hvl := Fact.mk hvl
      clear R1 hV hP
      by_cases hlt : j < secs b.length
      · have hlt2 : (j : Int) < (secs b.length : Int) := by omega
        have q1 : wr.cell? ⟨w.heap.size, 1, none⟩ = some (.slice A b.length c) := (R2.out.cell (p := ⟨w.heap.size, 1, none⟩) hw3.out).trans ((cell_of_row _ _ 1 _ _ _ HN3.out).trans rfl)
        obtain ⟨ad, hA, -⟩ := (HSee.out.reads w0 (Only.refl _ _)).2.2 hbl
        dsimp only at hA
        subst hA
        have hj64 : 64 * j < b.length := by unfold secs at hlt; omega
        go_wp2_with ((with_reducible refine gate_builtin (b := .append) (xs := #[.tmp 35, .tmp 51]) rfl ?_); at_builtin; refine Fact.out (p := _) ?_)
        obtain ⟨kl, hkl⟩ : ∃ kl, (min (b.length : Int) (((j : Int) + 1) * 64)).toNat - j * 64 = kl := ⟨_, rfl⟩
        rw [hkl]
        have hkl2 : kl = min 64 (b.length - j * 64) := by omega
        have hch : chunk b j = (b.drop (j * 64)).take kl := by
          unfold chunk
          rw [Nat.mul_comm 64 j, List.take_eq_take_iff, List.length_drop]
          omega
        have HSp : Fact (Sees S w0 ⟨some (ad.add (j * 64)), kl, c - j * 64⟩ (chunk b j)) := ⟨by rw [hch]; exact Sees_part HSee.out (by omega)⟩
        have HGet := Fact.mk (changes_get (s := (s : Int)) h0 hlt)
        have hbs := R2.out.size
        clear hkl hkl2 hch q1
        refine Fact.mk ?_
        refine Kd.R_append chK (w0 := w3) w3.heap.size rfl (.tmp 35) (.tmp 51) 79 111 (.agg #[.int .i64 0, .slice none 0 0]) 32 rfl Try.underlying79 info_ch rfl (by decide) (by decide) (.slice A5 (1 + j) c5) vs (64 * (s : Int) + 1 + (j : Int), ⟨some (ad.add (j * 64)), kl, c - j * 64⟩) [.int .i64 (64 * (s : Int) + 1 + (j : Int)), .slice (some (ad.add (j * 64))) kl (c - j * 64)] (fun k => w3.heap.size ≤ k) (fun _ => False) rfl rfl (M_ch _ _ _ _ ⟨some (ad.add (j * 64)), kl, c - j * 64⟩) (fun _ h => h.elim) ?aF ?aO ?aB ?aS ?aL ?_
        case aF => intro k hk; omega
        case aO => exact HV.out
        case aB => exact R2.out
        case aS => exact hbs
        case aL => rw [hvl.out]; omega
        intro v1 w5 ho hb' hg hat
        have HO := Fact.mk ho
        have HB5 := Fact.mk hb'
        have HU5 := Fact.mk (R3.out.trans (U8.of_grown hg HV.out (by decide)))
        clear ho hb' hg hat
        go_wp2_with fail
        exact ⟨⟨j + 1, by go_num, by omega, ⟨_, by rw [List.length_append, hvl.out]; simp; omega, HO.out, HP.out.snoc hvl.out HGet.out ⟨rfl, .inl HSp.out⟩⟩, HB5, HU5⟩, by simp [intOf]; omega⟩
      · have he : j = secs b.length := by omega
        subst he
        have hlt2 : ¬ ((secs b.length : Int) < (secs b.length : Int)) := by omega
        have HCC : Fact (Kd.C chK wr A5 (1 + secs b.length) vs) := ⟨by
          obtain ⟨Ax, cx, ex, -, hCx⟩ := Kd.R_reads HV.out
          injection ex with ex1 ex2 ex3
          subst ex1
          rwa [hvl.out] at hCx⟩
        have hcl := Fact.mk (changes_length (s := (s : Int)) h0)
        go_wp2_with fail
        go_ret
        exact ⟨A5, c5, vs, by rw [hcl.out]; rfl, by rw [hcl.out, hvl.out], by rw [hvl.out]; exact HCC.out, HP.out.u8 R3.out, B3.out.trans (R2.out.mono (Nat.le_of_lt hw3.out))⟩
end Go.Proofs.Ytdkijmikafmgaaa.Dk
namespace Go.Proofs.Ytdkijmikafmgaaa.Dk
open Go.RowKit Go.Maps Go.Proofs.YtdkijmikafmgaaaW.PrintWords Go.Proofs.YtdkijmikafmgaaaW.PrintLast Go.Proofs.YtdkijmikafmgaaaW.PrintMore
set_option linter.unusedVariables false
set_option linter.unusedSimpArgs false

/-- The first j puts are right so far. -/
structure PutsTo (m : Int) (l : List Ch) (j : Nat) : Prop where
  ok : ∀ c ∈ l.take j, 0 ≤ c.1 ∧ c.1 < m ∧ c.2.length ≤ 4000
  nodup : ((l.take j).map (·.1)).Nodup
theorem PutsTo.start (m : Int) (l : List Ch) : PutsTo m l 0 := ⟨fun c h => by simp at h, by simp⟩
theorem PutsTo.step {n : Int} {l : List Ch} {j : Nat} (h : PutsTo n l j) {x : Ch} (hx : l[j]? = some x) (h0 : 0 ≤ x.1) (h1 : x.1 < n) (h2 : x.2.length ≤ 4000) (h3 : ¬ x.1 ∈ (l.take j).map (·.1)) : PutsTo n l (j + 1) := by
  have e : l.take (j + 1) = l.take j ++ [x] := by rw [List.take_add_one, hx]; rfl
  refine ⟨?_, ?_⟩
  · rw [e]; intro c hc
    rcases List.mem_append.1 hc with hc | hc
    · exact h.ok c hc
    · obtain rfl := List.mem_singleton.1 hc; exact ⟨h0, h1, h2⟩
  · rw [e, List.map_append]
    refine List.nodup_append.2 ⟨h.nodup, by simp, ?_⟩
    intro a ha b hb
    have hb : b = x.1 := by simpa using hb
    subst hb
    rintro rfl
    exact h3 ha
theorem PutsTo.bad {n : Int} {l : List Ch} {x : Ch} {j : Nat} (hx : l[j]? = some x) (h : ¬ (0 ≤ x.1 ∧ x.1 < n) ∨ 4000 < x.2.length ∨ x.1 ∈ (l.take j).map (·.1)) : putsOk n l = false := by
  unfold putsOk
  rw [decide_eq_false_iff_not]
  rintro ⟨h1, h2⟩
  have hm : x ∈ l := List.mem_of_getElem? hx
  obtain ⟨a, b, c⟩ := h1 x hm
  rcases h with h | h | h
  · exact h ⟨a, b⟩
  · omega
  · have e : l = l.take j ++ x :: l.drop (j + 1) := by
      have hj := (List.getElem?_eq_some_iff.1 hx)
      obtain ⟨hj, e⟩ := hj
      rw [← e, ← List.drop_eq_getElem_cons hj, List.take_append_drop]
    rw [e, List.map_append] at h2
    exact (List.nodup_append.1 h2).2.2 x.1 h x.1 (by simp) rfl
theorem PutsTo.done {n : Int} {l : List Ch} (h : PutsTo n l l.length) : putsOk n l = true := by
  unfold putsOk
  have h1 := h.ok
  have h2 := h.nodup
  rw [List.take_length] at h1 h2
  exact decide_eq_true ⟨h1, h2⟩
theorem allOf_snoc {l : List Ch} {j : Nat} {x : Ch} (hx : l[j]? = some x) : allOf (l.take (j + 1)) = allOf (l.take j) ++ changesOf x.1 x.2 := by
  unfold allOf
  rw [List.take_add_one, hx, List.flatMap_append]
  simp
theorem changes_le {s : Int} {b : List Int} (hb : b.length ≤ 4000) : (changesOf s b).length ≤ 64 := by
  by_cases h : b = []
  · unfold changesOf; rw [if_pos h]; show 1 ≤ 64; decide
  · rw [changes_length h]; have := secs_le hb; omega
/-- What 'Do' comes to. -/
def SDoTo (w : World) (L : DL) (q s : Nat) (r : Int × PD × Bool) (e : Ending) (w' : World) : Prop :=
  e = .returned (.int .i64 r.1) ∧ IsDisk w' L r.2.1 ∧ IsRedo w' q L r.2.2 ∧ IsSlots w' s q ∧ Only (RS L q) w w'
theorem Els.append {S : Nat → Prop} {w0 w : World} {base : Nat} {l l' : List Ch} {vs vs' : List (Int × SV)} (hl : vs.length = l.length) (h : Els S w0 w base l vs) (h' : Els S w0 w base l' vs') : Els S w0 w base (l ++ l') (vs ++ vs') := by
  intro i v x hv hx
  by_cases hi : i < vs.length
  · rw [List.getElem?_append_left hi] at hv
    rw [List.getElem?_append_left (by rw [← hl]; exact hi)] at hx
    exact h i v x hv hx
  · rw [List.getElem?_append_right (by omega)] at hv
    rw [List.getElem?_append_right (by rw [← hl]; omega), ← hl] at hx
    exact h' _ v x hv hx
theorem gate_put2 {P : Program} {ops : Array Oper} {rest : List Oper} {o : Oper} {a : Act} {Q : Exit → Act → World → Prop} {W : World} (m x v : Operand) (t : TypeId) (_ho : o.op = .mapUpdate t m x v) (h : wpList P ops Q (o :: rest) a W) : wpList P ops Q (o :: rest) a W := h
section
variable {w : World} {L : DL} {D : PD} {q s : Nat} {br : Bool} {S : Nat → Prop}
set_option maxHeartbeats 4000000 in
set_option maxRecDepth 1000000 in
theorem SDo_any (hs : IsSlots w s q) (hd : IsDisk w L D) (hr : IsRedo w q L br) {m : Nat} (hm : ((D.n : Int) - 100) = 64 * (m : Int)) (A : Option Addr) (c : Nat) (l : List Ch) (hl : Chs S w A l) (hlen : l.length ≤ 100) (hS : ∀ k, RS L q k → S k) (hlt0 : ∀ k, S k → k < w.heap.size) :
    Calls Try.prog 11 #[.pointer (some ⟨s, 0, none⟩), .slice A l.length c] w (SDoTo w L q s (D.sdo br l)) := by
  have HR := Fact.mk hr
  have HD := Fact.mk hd
  have HSl := Fact.mk hs
  have HC := Fact.mk hl
  have HS := Fact.mk hS
  have HLt := Fact.mk hlt0
  have hn := hd.good.most
  have HQ := Fact.mk (hr.apart hd)
  have HQS := Fact.mk (hs.apart hr hd)
  have hmn : (m : Int) < D.n := by omega
  have hm62 : m ≤ 62 := by omega
  have hm2 : (((D.n : Int) - 100) / 64) = (m : Int) := by omega
  have HM2 := Fact.mk hm2
  have HF : Fact (D.sdo br l = if putsOk (m : Int) l = false then (10, D, br) else if l = [] then (10, D, br) else if 96 < (allOf l).length then (23, D, br) else D.do_ br (allOf l)) := ⟨by unfold PD.sdo; rw [hm2]⟩
  have hmm := @run_makeMap Try.prog
  have I0 : Fact (PutsTo (m : Int) l 0 ∧ IntMap Try.prog (w.alloc (.map #[] 0)) w.heap.size (seenOf l 0) D.n) := ⟨PutsTo.start _ _, by
    have := IntMap.made Try.prog w D.n
    have e : seenOf l 0 = fun _ => none := by funext i; simp [seenOf]
    rw [e]; exact this⟩
  have HTh : Fact (∀ W, Below w.heap.size w W → ∀ i : Int, Calls Try.prog 31 #[.pointer (some ⟨s, 0, none⟩), .int .i64 i] W fun e w' => e = .returned (.bool (decide (0 ≤ i ∧ i < (m : Int)))) ∧ W = w') := ⟨fun W hW i => Sthere_any (HSl.out.only (Only.of_below hW (RS L q)) HQS.out) (HD.out.below hW) (HR.out.only (Only.of_below hW L.S) HQ.out) hm i⟩
  have hend : Fact (∀ W r, Below w.heap.size w W → D.sdo br l = (r, D, br) → SDoTo w L q s (D.sdo br l) (.returned (.int .i64 r)) W) := ⟨fun W r hW he => by
    rw [he]
    exact ⟨rfl, HD.out.below hW, HR.out.only (Only.of_below hW L.S) HQ.out, HSl.out.only (Only.of_below hW (RS L q)) HQS.out, Only.of_below hW _⟩⟩
  clear hd hr hl hs hS hlt0 hm2 hm
  go_enter Try.func11, Try.ntmps11
  go_wp2_with fail
  clear hmm
  go_loopw [14] (fun v14 wr => ∃ j : Nat, v14 = .int .i64 (j : Int) ∧ j ≤ l.length ∧ Fact (PutsTo (m : Int) l j ∧ IntMap Try.prog wr w.heap.size (seenOf l j) D.n) ∧ Fact (Below w.heap.size w wr)) (fun v _ => l.length - (intOf v).toNat)
  case atStart => exact ⟨0, rfl, Nat.zero_le _, I0, ⟨(Below.refl _ _).alloc (Nat.le_refl _) _⟩⟩
  case round =>
    obtain ⟨j, rfl, hj, R1, R2⟩ := hrel
    clear I0
    by_cases hlt : j < l.length
    · have hlt2 : (j : Int) < (l.length : Int) := by omega
      have hx : l[j]? = some l[j] := List.getElem?_eq_getElem hlt
      have HX := Fact.mk hx
      obtain ⟨ad, As, cs, hA, hs, hc⟩ := HC.out.at_ hx
      subst hA
      obtain ⟨c0, c1⟩ := hc wr (Only.of_below R2.out S)
      have hbase : w.heap.size ≤ wr.heap.size := R2.out.size
      clear hs hc hx
      generalize l[j] = x at *
      have R3 : Fact (Below w.heap.size w (wr.alloc (.cells #[.int .i64 x.1, .slice As x.2.length cs] 39))) := ⟨R2.out.alloc hbase _⟩
      have HT := Fact.mk (HTh.out _ R3.out x.1)
      by_cases h1 : 0 ≤ x.1 ∧ x.1 < (m : Int)
      · rw [decide_eq_true h1] at HT
        obtain ⟨k, hk⟩ := Int.eq_ofNat_of_zero_le h1.1
        have hkn : k < D.n := by omega
        by_cases h3 : x.1 ∈ (l.take j).map (·.1)
        · have hlk : ∀ o, (Instr.lookup 77 (.map (some w.heap.size)) (.int .i64 x.1) false).run Try.prog (wr.alloc o) = .ok (.bool true) (wr.alloc o) := fun o => by
            rw [hk, ((R1.out.2).move (Below.heap_alloc _ _ _ (R1.out.2).lt)).look int_t Try.underlying77 (zero_bool _) k (by omega)]
            rw [seenOf, if_pos (hk ▸ h3)]; rfl
          have HZ := Fact.mk (PutsTo.bad (n := (m : Int)) HX.out (.inr (.inr h3)))
          clear h3 h1 hk HX
          go_wp2_with (go_at_call 31; refine HT.out.mono ?_; rintro e w' ⟨rfl, rfl⟩)
          go_ret
          exact hend.out _ _ R3.out (by rw [HF.out, if_pos HZ.out])
        · have hlk : ∀ o, (Instr.lookup 77 (.map (some w.heap.size)) (.int .i64 x.1) false).run Try.prog (wr.alloc o) = .ok (.bool false) (wr.alloc o) := fun o => by
            rw [hk, ((R1.out.2).move (Below.heap_alloc _ _ _ (R1.out.2).lt)).look int_t Try.underlying77 (zero_bool _) k (by omega)]
            rw [seenOf, if_neg (hk ▸ h3)]; rfl
          by_cases h2 : x.2.length ≤ 4000
          · have h2i : ((x.2.length : Int)) ≤ 4000 := by omega
            have HZ := Fact.mk (R1.out.1.step HX.out h1.1 h1.2 h2 h3)
            have HK : Fact (Value.int .i64 x.1 = Value.int .i64 (k : Int)) := ⟨by rw [hk]⟩
            have HKx := Fact.mk hk
            have HMo : Fact (∀ o, IntMap Try.prog (wr.alloc o) w.heap.size (seenOf l j) D.n) := ⟨fun o => (R1.out.2).move (Below.heap_alloc _ _ _ (R1.out.2).lt)⟩
            clear h3 h1 hk
            go_wp2_with (first | (go_at_call 31; refine HT.out.mono ?_; rintro e w' ⟨rfl, rfl⟩) | ((with_reducible refine gate_put2 (.tmp 35) (.tmp 37) (.const (.bool true)) 77 rfl ?_); refine wpList_put_map rfl (.tmp 35) (.tmp 37) (.const (.bool true)) 77 4 rfl int_t Try.underlying77 w.heap.size D.n _ (HMo.out _) (by omega) rfl k HK.out hkn (.bool true) rfl ?_; intro w3 hm3 ht3; have HM := Fact.mk hm3; have HT3 := Fact.mk ht3; clear hm3 ht3))
            refine ⟨⟨j + 1, by go_num, by omega, ⟨HZ.out, by rw [← seenOf_step HX.out HKx.out]; exact HM.out⟩, ⟨?_⟩⟩, by simp [intOf]; omega⟩
            exact R3.out.trans ((Only.mapTurned (S := fun k => k = w.heap.size) HT3.out rfl).below (by simp; omega) (fun k hk => by omega))
          · have h2i : (4000 : Int) < (x.2.length : Int) := by omega
            have HZ := Fact.mk (PutsTo.bad (n := (m : Int)) HX.out (.inr (.inl (by omega))))
            clear h1 h3 hk HX
            go_wp2_with (go_at_call 31; refine HT.out.mono ?_; rintro e w' ⟨rfl, rfl⟩)
            go_ret
            exact hend.out _ _ R3.out (by rw [HF.out, if_pos HZ.out])
      · rw [decide_eq_false h1] at HT
        have HZ := Fact.mk (PutsTo.bad (n := (m : Int)) HX.out (.inl h1))
        clear h1 HX
        go_wp2_with (go_at_call 31; refine HT.out.mono ?_; rintro e w' ⟨rfl, rfl⟩)
        go_ret
        exact hend.out _ _ R3.out (by rw [HF.out, if_pos HZ.out])
    · have he : j = l.length := by omega
      subst he
      have hlt2 : ¬ ((l.length : Int) < (l.length : Int)) := by omega
      have HOk := Fact.mk (R1.out.1.done)
      have HAll := Fact.mk (putsOk_props HOk.out).1
      have HF2 : Fact (D.sdo br l = if l = [] then (10, D, br) else if 96 < (allOf l).length then (23, D, br) else D.do_ br (allOf l)) := ⟨by rw [HF.out, if_neg (by rw [HOk.out]; decide)]⟩
      obtain ⟨w1, hw1⟩ : ∃ w1, w1 = wr := ⟨_, rfl⟩
      subst hw1
      clear R1 HF HTh
      have I2 : Fact (∃ vs, Kd.R chK 111 w1 w.heap.size (fun k => w.heap.size ≤ k) (.slice none 0 0) vs ∧ vs.length = (allOf (l.take 0)).length ∧ Els S w w1 w.heap.size (allOf (l.take 0)) vs ∧ (allOf (l.take 0)).length ≤ 64 * 0) := ⟨[], Kd.R_nil _ _ _ _ _, rfl, fun i v x h => by simp at h, Nat.le_refl _⟩
      go_wp2_with fail
      go_loopw [8, 41] (fun v8 v41 wr => ∃ j : Nat, v41 = .int .i64 (j : Int) ∧ j ≤ l.length ∧ Fact (∃ vs, Kd.R chK 111 wr w.heap.size (fun k => w.heap.size ≤ k) v8 vs ∧ vs.length = (allOf (l.take j)).length ∧ Els S w wr w.heap.size (allOf (l.take j)) vs ∧ (allOf (l.take j)).length ≤ 64 * j) ∧ Fact (Below w.heap.size w wr)) (fun _ v _ => l.length - (intOf v).toNat)
      case atStart => exact ⟨0, rfl, Nat.zero_le _, I2, R2⟩
      case round =>
        obtain ⟨j, rfl, hj, R1, R3⟩ := hrel
        clear I2 R2
        obtain ⟨vs, hV, hvl, hE, hle⟩ := R1.out
        obtain ⟨A8, c8, rfl⟩ := Kd.R_slice hV
        have HV := Fact.mk hV
        have HE := Fact.mk hE
        have hbase : w.heap.size ≤ wr.heap.size := R3.out.size
        clear R1 hV hE
        by_cases hlt : j < l.length
        · have hlt2 : (j : Int) < (l.length : Int) := by omega
          have hx : l[j]? = some l[j] := List.getElem?_eq_getElem hlt
          have HSn := Fact.mk (allOf_snoc hx)
          obtain ⟨p1, p2, p3⟩ := HAll.out l[j] (List.getElem_mem hlt)
          obtain ⟨ad, As, cs, hA, hs, hc⟩ := HC.out.at_ hx
          subst hA
          obtain ⟨c0, c1⟩ := hc wr (Only.of_below R3.out S)
          have HSee := Fact.mk hs
          clear hs hc hx
          generalize l[j] = x at *
          obtain ⟨xs, xb⟩ := x
          dsimp only at p1 p2 p3 c0 c1 HSee HSn
          obtain ⟨k, rfl⟩ := Int.eq_ofNat_of_zero_le p1
          have hk100 : k ≤ 100 := by omega
          have R4 := Fact.mk (R3.out.alloc hbase (.cells #[.int .i64 (k : Int), .slice As xb.length cs] 39))
          have HChF := Fact.mk (changes_any (S := S) (w0 := w) (w := wr.alloc (.cells #[.int .i64 (k : Int), .slice As xb.length cs] 39)) R4.out k hk100 As cs xb p3 HSee.out)
          have HV4 := Fact.mk (Kd.R_alloc HV.out (.cells #[.int .i64 (k : Int), .slice As xb.length cs] 39))
          have HE4 := Fact.mk (HE.out.u8 (U8.alloc wr (.cells #[.int .i64 (k : Int), .slice As xb.length cs] 39)))
          have hcl := changes_le (s := (k : Int)) p3
          have hbase2 := R4.out.size
          clear HV HE hbase
          go_wp2_with fail
          refine HChF.out.mono ?_
          rintro e w5 ⟨A5, c5, vs5, rfl, hvl5, hC5, hE5, b5⟩
          have HC5 := Fact.mk hC5
          have HE5 : Fact (Els S w w5 w.heap.size (changesOf (k : Int) xb) vs5) := ⟨fun i v x a b => (hE5 i v x a b).lower hbase2⟩
          have R5 := Fact.mk (next_new R4.out b5)
          have HV5 := Fact.mk (Kd.R_below HV4.out b5)
          have HE45 := Fact.mk (HE4.out.u8 (U8.of_below b5))
          rw [← hvl5]
          clear hC5 hE5 b5 R4 HV4 HE4 HChF hbase2
          generalize changesOf (k : Int) xb = cx at *
          replace hvl5 := Fact.mk hvl5
          replace hvl := Fact.mk hvl
          go_wp2_with ((with_reducible refine gate_builtin (b := .append) (xs := #[.tmp 45, .tmp 47]) rfl ?_); at_builtin; refine Fact.out (p := _) ?_)
          refine Fact.mk ?_
          refine Kd.R_append_rows chK (w0 := w) w.heap.size rfl (.tmp 45) (.tmp 47) 79 111 (.agg #[.int .i64 0, .slice none 0 0]) 32 rfl Try.underlying79 info_ch rfl (by decide) (by decide) (.slice A8 vs.length c8) vs vs5 A5 vs5.length c5 (fun k => w.heap.size ≤ k) (fun _ => False) rfl rfl ?aO ?aR (fun _ _ h => h) (fun _ h => h.elim) ?aF ?aB ?aS ?aL ?_
          case aO => exact HV5.out
          case aR => exact HC5.out
          case aF => intro k hk; have := R5.out.size; omega
          case aB => exact R5.out
          case aS => exact R5.out.size
          case aL => have := hvl5.out; have := hvl.out; omega
          intro v1 w6 ho hb hg hat
          have HO := Fact.mk ho
          have HB6 := Fact.mk hb
          have HU := Fact.mk (U8.of_grown hg HV5.out (by decide))
          clear ho hb hg hat
          have I3 : Fact (∃ vs, Kd.R chK 111 w6 w.heap.size (fun k => w.heap.size ≤ k) v1 vs ∧ vs.length = (allOf (l.take (j + 1))).length ∧ Els S w w6 w.heap.size (allOf (l.take (j + 1))) vs ∧ (allOf (l.take (j + 1))).length ≤ 64 * (j + 1)) := ⟨vs ++ vs5, HO.out, by rw [HSn.out, List.length_append, List.length_append, hvl.out, hvl5.out], by rw [HSn.out]; exact Els.append hvl.out (HE45.out.u8 HU.out) (HE5.out.u8 HU.out), by rw [HSn.out, List.length_append]; omega⟩
          go_wp2_with fail
          exact ⟨⟨j + 1, by go_num, by omega, I3, HB6⟩, by simp [intOf]; omega⟩
        · have he : j = l.length := by omega
          subst he
          have hlt2 : ¬ ((l.length : Int) < (l.length : Int)) := by omega
          rw [List.take_length] at hvl hle
          have HEl := Fact.mk HE.out
          rw [List.take_length] at HEl
          have HCh : Fact (Chs S wr A8 (allOf l)) := ⟨Chs.of_own HV.out (fun k hk h => by have := HLt.out k h; omega) hvl (fun i v x a b => (HEl.out i v x a b).sees R3.out HLt.out)⟩
          have HD1 : Fact (IsDisk wr L D) := ⟨HD.out.below R3.out⟩
          have HR1 : Fact (IsRedo wr q L br) := ⟨HR.out.only (Only.of_below R3.out L.S) HQ.out⟩
          have HS1 : Fact (IsSlots wr s q) := ⟨HSl.out.only (Only.of_below R3.out (RS L q)) HQS.out⟩
          have c0 := HS1.out.c0
          rw [hvl]
          clear HV HE HEl
          by_cases hnil : l = []
          · subst hnil
            have he := hend.out wr 10 R3.out (by rw [HF2.out, if_pos rfl])
            replace he := Fact.mk he
            simp only [List.length_nil]
            go_wp2_with fail
            go_ret
            exact he.out
          · have hl0 : ¬ ((l.length : Int) = 0) := by have := List.length_pos_iff.2 hnil; omega
            by_cases hbig : 96 < (allOf l).length
            · have hbig2 : (96 : Int) < ((allOf l).length : Int) := by omega
              have he := hend.out wr 23 R3.out (by rw [HF2.out, if_neg hnil, if_pos hbig])
              replace he := Fact.mk he
              go_wp2_with fail
              go_ret
              exact he.out
            · have hbig2 : ¬ ((96 : Int) < ((allOf l).length : Int)) := by omega
              have HF3 : Fact (D.sdo br l = D.do_ br (allOf l)) := ⟨by rw [HF2.out, if_neg hnil, if_neg hbig]⟩
              clear hend
              go_wp2_with fail
              refine (Do_any (S := S) HD1.out HR1.out A8 c8 (allOf l) HCh.out HS.out (fun k hk => Nat.lt_of_lt_of_le (HLt.out k hk) R3.out.size)).mono ?_
              rintro e w9 ⟨rfl, h9, q9, o9⟩
              have H9 : Fact (SDoTo w L q s (D.do_ br (allOf l)) (.returned (.int .i64 (D.do_ br (allOf l)).1)) w9) := ⟨⟨rfl, h9, q9, HS1.out.only o9 HQS.out, (Only.of_below R3.out _).trans o9⟩⟩
              clear h9 q9 o9
              go_wp2_with fail
              go_ret
              rw [HF3.out]
              exact H9.out
end
end Go.Proofs.Ytdkijmikafmgaaa.Dk
namespace Go.Proofs.Ytdkijmikafmgaaa.Dk
open Go.RowKit Go.Maps Go.Proofs.YtdkijmikafmgaaaW.PrintWords Go.Proofs.YtdkijmikafmgaaaW.PrintLast Go.Proofs.YtdkijmikafmgaaaW.PrintMore
set_option linter.unusedVariables false
set_option linter.unusedSimpArgs false

/-- Slots of the law's own. -/
structure Sl (w0 w : World) (L : DL) (D : PD) (q s : Nat) (br : Bool) : Prop where
  jr : Jr w0 w L D q br
  slots : IsSlots w s q
  snew : w0.heap.size ≤ s
section
variable {w0 w w' : World} {L : DL} {D D' : PD} {q s : Nat} {br br' : Bool} {e : Int}
theorem Sl.apart (h : Sl w0 w L D q s br) : ¬ RS L q s := h.slots.apart h.jr.redo h.jr.disk
theorem Sl.step (h : Sl w0 w L D q s br) (hb : Below w.heap.size w w') : Sl w0 w' L D q s br := ⟨h.jr.step hb, h.slots.only (Only.of_below hb (RS L q)) h.apart, h.snew⟩
theorem SDo_law (h : Sl w0 w L D q s br) {m : Nat} (hm : ((D.n : Int) - 100) = 64 * (m : Int)) (A : Option Addr) (c : Nat) {l : List Ch} (hl : Chs (RS L q) w A l) (hlen : l.length ≤ 100) (hr : D.sdo br l = (e, D', br')) :
    Calls Try.prog 11 #[.pointer (some ⟨s, 0, none⟩), .slice A l.length c] w fun en w' => en = .returned (.int .i64 e) ∧ Sl w0 w' L D' q s br' ∧ Only (RS L q) w w' := by
  refine (SDo_any h.slots h.jr.disk h.jr.redo hm A c l hl hlen (fun _ h => h) h.jr.lt).mono ?_
  rintro en w1 ⟨rfl, h1, q1, s1, o1⟩
  rw [hr] at h1 q1 ⊢
  exact ⟨rfl, ⟨⟨h1, q1, h.jr.new, next_below h.jr.below o1 h.jr.new⟩, s1, h.snew⟩, o1⟩
theorem Get_law (h : Sl w0 w L D q s false) {n m : Nat} {f : Sect} (hr : Rests n f D) (hd : D.down = false) (hn : n = 100 + 64 * m) {i : Nat} {ii : Int} (hii : ii = (i : Int)) {b : List Int} (hi : SlotIs f i b) (him : i < m) :
    Calls Try.prog 12 #[.pointer (some ⟨s, 0, none⟩), .int .i64 ii] w fun en w' => GetTo w b en w' ∧ Sl w0 w' L D q s false ∧ Below w.heap.size w w' := by
  subst hii
  have hsl := secs_le hi.le
  have hm : ((D.n : Int) - 100) = 64 * (m : Int) := by rw [hr.size]; omega
  have h1 := (hr.rread hd (m := 64 * m) hn (i := 64 * i) (by omega)).1
  have e1 : f (100 + 64 * i) = hdOf b.length := by
    rw [hi.head]; unfold hdOf
    by_cases h0 : b = []
    · subst h0; rfl
    · rw [if_neg h0, if_neg (fun hh => h0 (List.length_eq_zero_iff.1 hh))]
  rw [e1] at h1
  refine (Get_any h.slots h.jr.disk h.jr.redo hm i him b hi.le (by rw [← h1]; congr 1) (fun k hk => by
    have h2 := (hr.rread hd (m := 64 * m) hn (i := 64 * i + 1 + k) (by omega)).1
    rw [hi.rest k hk] at h2
    rw [← h2]; congr 1)).mono ?_
  rintro en w1 hg
  exact ⟨hg, h.step hg.2, hg.2⟩
set_option maxHeartbeats 1000000 in
set_option maxRecDepth 100000 in
theorem made_law (w0 : World) (hb : Below w0.heap.size w0 w) {m : Nat} (h1 : 1 ≤ m) (h2 : m ≤ 60) :
    Calls Try.prog 9 #[.int .i64 (m : Int)] w fun en w' => ∃ L q s, en = .returned (.tuple #[.pointer (some ⟨s, 0, none⟩), .pointer (some ⟨L.p, 0, none⟩)]) ∧ Sl w0 w' L (PD.new (100 + 64 * m)) q s false := by
  have HB := Fact.mk hb
  have hN := Fact.mk (show (100 : Int) + 64 * (m : Int) = ((100 + 64 * m : Nat) : Int) by omega)
  clear hb
  go_enter Try.func9, Try.ntmps9
  go_wp2_with fail
  rw [hN.out]
  refine (New_law w0 HB.out (n := 100 + 64 * m) (by omega) (by omega)).mono ?_
  rintro e w1 ⟨L, rfl, h1'⟩
  have H1 := Fact.mk h1'
  clear h1' HB
  have r0 : Fact (Rests (100 + 64 * m) (fun _ => nought) (PD.new (100 + 64 * m))) := ⟨Rests.new (by omega) (by omega)⟩
  go_wp2_with fail
  refine (Open_first H1.out (by show 100 < 100 + 64 * m; omega) r0.out.lows (open_rests r0.out (by omega) rfl)).mono ?_
  rintro e w2 ⟨q, rfl, h2'⟩
  have H2 := Fact.mk h2'
  clear h2' H1
  go_wp2_with fail
  refine (SOpen_any w2 q).mono ?_
  rintro e w3 ⟨rfl, rfl⟩
  have H3 : Fact (Sl w0 (w2.alloc (.cells #[.pointer (some ⟨q, 0, none⟩)] 82)) L (PD.new (100 + 64 * m)) q w2.heap.size false) := ⟨⟨H2.out.step ((Below.refl _ _).alloc (Nat.le_refl _) _), heap_alloc_new w2 _, H2.out.below.size⟩⟩
  clear H2
  go_wp2_with fail
  go_ret2
  exact ⟨L, q, _, rfl, H3.out⟩
end
theorem Chs.of_row {S : Nat → Prop} {w : World} {A : Option Addr} {t : TypeId} {base : Nat} {ok : Nat → Prop} {n c : Nat} {vs : List (Int × SV)} {l : List Ch} (h : Kd.R chK t w base ok (.slice A n c) vs) (hok : ∀ k, ok k → ¬ S k) (hl : vs.length = l.length) (he : ∀ (j : Nat) v x, vs[j]? = some v → l[j]? = some x → v.1 = x.1 ∧ Sees S w v.2 x.2) : Chs S w A l :=
  ⟨vs, hl, fun w' ho => by
    obtain ⟨A', c', e, h2, h3⟩ := Kd.R_reads (own_only h ho hok)
    injection e with e1 e2 e3
    rw [e1]; exact h3, he⟩
/-- A literal of one put. -/
theorem one_put (w : World) (t : TypeId) (S : Nat → Prop) (hs : ∀ k, S k → k < w.heap.size) (n : Int) (s : SV) (b : List Int) (h : Sees S w s b) : Chs S (w.alloc (.cells #[.int .i64 n, .slice s.A s.n s.c] t)) (some ⟨w.heap.size, 0, none⟩) [(n, b)] := by
  have hR : Kd.R chK t (w.alloc (.cells #[.int .i64 n, .slice s.A s.n s.c] t)) w.heap.size (fun k => w.heap.size ≤ k) (.slice (some ⟨w.heap.size, 0, none⟩) 1 1) [(n, s)] :=
    ⟨fun k hk => by simp [Value.ownBlock] at hk; omega, OwnRow.lit w w.heap.size (Reps.c2 (M_ch _ _ _ n s) (Reps.none _ _)) (Nat.le_refl _) (by simp)⟩
  refine Chs.of_row hR (fun k hk h => by have := hs k h; omega) rfl ?_
  intro j v x hv hx
  rcases j with _ | j
  · obtain rfl := Option.some.inj hv
    obtain rfl := Option.some.inj hx
    exact ⟨rfl, h.step (Only.alloc S _ _)⟩
  · cases hv
/-- One put on a disk at rest whose power is there: it is done. -/
theorem sdo_one {n m : Nat} {f : Sect} {D : PD} (h : Rests n f D) (hu : D.Up) (hn : n = 100 + 64 * m) (h1 : 1 ≤ m) (h2 : m ≤ 60) {i : Nat} (hi : i < m) {ii : Int} (hii : ii = (i : Int)) {b : List Int} (hb : b.length ≤ 4000) : ∃ D1 f1, D.sdo false [(ii, b)] = (0, D1, false) ∧ Rests n f1 D1 ∧ D1.Up ∧ SlotIs f1 i b ∧ ∀ j c, j ≠ i → SlotIs f j c → SlotIs f1 j c := by
  subst hii
  have hmm : (((D.n : Int) - 100) / 64) = (m : Int) := by rw [h.size]; omega
  have hmm2 : (((n : Int) - 100) / 64) = (m : Int) := by omega
  have hok : putsOk (m : Int) [((i : Int), b)] = true := by
    unfold putsOk
    exact decide_eq_true ⟨fun p hp => by rw [List.mem_singleton.1 hp]; exact ⟨by show 0 ≤ (i : Int); omega, by show (i : Int) < m; omega, hb⟩, by simp⟩
  have hal : allOf [((i : Int), b)] = changesOf (i : Int) b := by unfold allOf; simp
  have hle := changes_le (s := (i : Int)) hb
  have hj : Job n (allOf [((i : Int), b)]) := all_job (by omega) (by omega) (by rw [hmm2]; exact hok) (by simp) (by rw [hal]; omega)
  have he := doJob_ends hj h
  obtain ⟨a1, u1⟩ := he.up hu
  have hd : D.do_ false (allOf [((i : Int), b)]) = (0, (D.doJob (allOf [((i : Int), b)])).2, false) := by
    unfold PD.do_
    rw [if_neg (by decide), if_neg (by rw [h.size, hj.right]; decide), a1]; rfl
  refine ⟨_, _, ?_, he.done a1, u1, slots_done hj (by rw [hmm2]; exact hok) (.inl ⟨_, List.mem_singleton.2 rfl, rfl, rfl⟩), fun j c hji hs => slots_done hj (by rw [hmm2]; exact hok) (.inr ⟨fun p hp => ?_, hs⟩)⟩
  · unfold PD.sdo
    rw [hmm, if_neg (by rw [hok]; decide), if_neg (by simp), if_neg (by rw [hal]; omega), hd]
  · rw [List.mem_singleton.1 hp]
    show (i : Int) ≠ (j : Int)
    omega
theorem new_rests {m : Nat} (h : m ≤ 60) : Rests (100 + 64 * m) (fun _ => nought) (PD.new (100 + 64 * m)) := Rests.new (by omega) (by omega)
end Go.Proofs.Ytdkijmikafmgaaa.Dk
namespace Go.Proofs.Ytdkijmikafmgaaa.Dk
open Go.RowKit Go.Maps Go.Proofs.YtdkijmikafmgaaaW.PrintWords Go.Proofs.YtdkijmikafmgaaaW.PrintLast Go.Proofs.YtdkijmikafmgaaaW.PrintMore
set_option linter.unusedVariables false
set_option linter.unusedSimpArgs false

def usedTo (recs : Nat → List Int) (j : Nat) : List Int := ((List.range j).filter fun i => decide (recs i ≠ [])).map fun i : Nat => (i : Int)
theorem usedTo_yes {recs : Nat → List Int} {j : Nat} (h : recs j ≠ []) : usedTo recs (j + 1) = usedTo recs j ++ [(j : Int)] := by
  unfold usedTo
  rw [List.range_succ, List.filter_append, List.map_append]
  simp [h]
theorem usedTo_no {recs : Nat → List Int} {j : Nat} (h : ¬ recs j ≠ []) : usedTo recs (j + 1) = usedTo recs j := by
  unfold usedTo
  rw [List.range_succ, List.filter_append, List.map_append]
  simp [Classical.not_not.1 h]
theorem usedTo_length (recs : Nat → List Int) (j : Nat) : (usedTo recs j).length ≤ j := by
  unfold usedTo
  rw [List.length_map]
  exact Nat.le_trans (List.length_filter_le _ _) (by rw [List.length_range]; exact Nat.le_refl _)
theorem info_int : (Try.prog.info? 3).map (fun i => (i.zero, i.size, i.bytes)) = some (some (.int .i64 0), 1, 8) := by kernel_rfl
section
variable {w0 w w' : World} {L : DL} {D D' : PD} {q s : Nat}
set_option maxHeartbeats 2000000 in
set_option maxRecDepth 100000 in
theorem Used_law (h : Sl w0 w L D q s false) {n m : Nat} {f : Sect} (hr : Rests n f D) (hd : D.down = false) (hn : n = 100 + 64 * m) (hm60 : m ≤ 60) (recs : Nat → List Int) (hi : ∀ i, i < m → SlotIs f i (recs i)) :
    Calls Try.prog 24 #[.pointer (some ⟨s, 0, none⟩)] w fun en w' => ∃ v, en = .returned (.tuple #[v, .int .i64 0]) ∧ Kd.R (Kd.int .i64) 3 w' w.heap.size (fun k => w.heap.size ≤ k) v (usedTo recs m) ∧ Sl w0 w' L D q s false ∧ Below w.heap.size w w' := by
  have hm : ((D.n : Int) - 100) = 64 * (m : Int) := by rw [hr.size]; omega
  have HH := Fact.mk h
  have HL := Fact.mk (SLen_any h.slots h.jr.disk h.jr.redo hm)
  have HLe : Fact (∀ W, Below w.heap.size w W → ∀ i, i < m → Calls Try.prog 34 #[.pointer (some ⟨s, 0, none⟩), .int .i64 (i : Int)] W fun e w' => e = .returned (.tuple #[.int .i64 ((recs i).length : Int), .int .i64 0]) ∧ Below W.heap.size W w') := ⟨fun W hW i him => by
    have h2 := h.step hW
    have h1 := (hr.rread hd (m := 64 * m) hn (i := 64 * i) (by omega)).1
    have e1 : f (100 + 64 * i) = hdOf (recs i).length := by
      rw [(hi i him).head]; unfold hdOf
      by_cases h0 : recs i = []
      · rw [h0]; rfl
      · rw [if_neg h0, if_neg (fun hh => h0 (List.length_eq_zero_iff.1 hh))]
    rw [e1] at h1
    exact Slength_any h2.slots h2.jr.disk h2.jr.redo i _ (hi i him).le (by omega) (by rw [← h1]; congr 1)⟩
  have HSm : Fact (∀ i, i < m → (recs i).length ≤ 4000) := ⟨fun i him => (hi i him).le⟩
  have I0 : Fact (Kd.R (Kd.int .i64) 3 w w.heap.size (fun k => w.heap.size ≤ k) (.slice none 0 0) (usedTo recs 0)) := ⟨Kd.R_nil _ _ _ _ _⟩
  clear h hr hd hi hm
  go_enter Try.func24, Try.ntmps24
  go_wp2_with fail
  refine HL.out.mono ?_
  rintro e w1 ⟨rfl, rfl⟩
  clear HL
  go_wp2_with fail
  go_loopw [4, 10] (fun v4 v10 wr => ∃ j : Nat, v10 = .int .i64 (j : Int) ∧ j ≤ m ∧ Fact (Kd.R (Kd.int .i64) 3 wr w.heap.size (fun k => w.heap.size ≤ k) v4 (usedTo recs j)) ∧ Fact (Below w.heap.size w wr)) (fun _ v _ => m - (intOf v).toNat)
  case atStart => exact ⟨0, rfl, Nat.zero_le _, I0, ⟨Below.refl _ _⟩⟩
  case round =>
    obtain ⟨j, rfl, hj, R1, R2⟩ := hrel
    clear I0
    obtain ⟨A4, c4, rfl⟩ := Kd.R_slice R1.out
    by_cases hlt : j < m
    · have hlt2 : (j : Int) < (m : Int) := by omega
      have HC := Fact.mk (HLe.out wr R2.out j hlt)
      have hl4 := HSm.out j hlt
      have hul := Fact.mk (usedTo_length recs j)
      go_wp2_with fail
      refine HC.out.mono ?_
      rintro e w3 ⟨rfl, b3⟩
      have R3 := Fact.mk (next_new R2.out b3)
      have V3 := Fact.mk (Kd.R_below R1.out b3)
      clear b3 HC R1
      by_cases h0 : recs j ≠ []
      · have hpos : (0 : Int) < ((recs j).length : Int) := by have := List.length_pos_iff.2 h0; omega
        have HE := Fact.mk (usedTo_yes h0)
        generalize (recs j).length = rl at *
        generalize usedTo recs j = uj at *
        go_wp2_with ((with_reducible refine gate_builtin (b := .append) (xs := #[.tmp 24, .tmp 26]) rfl ?_); at_builtin; refine Fact.out (p := _) ?_)
        refine Fact.mk ?_
        refine Kd.R_append (Kd.int .i64) (w0 := w) w.heap.size rfl (.tmp 24) (.tmp 26) 64 3 (.int .i64 0) 8 rfl Try.underlying64 info_int rfl (by decide) (by decide) (.slice A4 uj.length c4) uj (j : Int) [.int .i64 (j : Int)] (fun k => w.heap.size ≤ k) (fun _ => False) rfl rfl rfl (fun _ h => h.elim) ?aF ?aO ?aB ?aS ?aL ?_
        case aF => intro k hk; have := R3.out.size; omega
        case aO => exact V3.out
        case aB => exact R3.out
        case aS => exact R3.out.size
        case aL => have := hul.out; omega
        intro v1 w5 ho hb hg hat
        have HO := Fact.mk ho
        have HB5 := Fact.mk hb
        clear ho hb hg hat
        go_wp2_with fail
        exact ⟨⟨j + 1, by go_num, by omega, ⟨by rw [HE.out]; exact HO.out⟩, HB5⟩, by simp [intOf]; omega⟩
      · have hz : recs j = [] := Classical.not_not.1 h0
        have HE := Fact.mk (usedTo_no h0)
        have hpos : ¬ ((0 : Int) < ((recs j).length : Int)) := by rw [hz]; simp
        generalize (recs j).length = rl at *
        clear hz h0
        generalize usedTo recs j = uj at *
        go_wp2_with fail
        exact ⟨⟨j + 1, by go_num, by omega, ⟨by rw [HE.out]; exact V3.out⟩, R3⟩, by simp [intOf]; omega⟩
    · have he : j = m := by omega
      subst he
      have hlt2 : ¬ ((j : Int) < (j : Int)) := by omega
      go_wp2_with fail
      go_ret2
      exact ⟨_, rfl, R1.out, HH.out.step R2.out, R2.out⟩
end
/-- Bytes of a constant are seen. -/
theorem const_sees (w w' : World) (x y : Int) (S : Nat → Prop) (hs : ∀ k, S k → k < w.heap.size) : Sees S (w.alloc (.cells #[.int .u8 x, .int .u8 y] 5 (2, 3))) ⟨some ⟨w.heap.size, 0, none⟩, 2, 2⟩ [x, y] := by
  have hb : BytesAt (w.alloc (.cells #[.int .u8 x, .int .u8 y] 5 (2, 3))) w.heap.size [x, y] := ⟨5, (2, 3), heap_alloc_new w _, by simp⟩
  exact ⟨rfl, by simp, fun w'' ho => (hb.only ho (fun hk => by have := hs _ hk; omega)).reads⟩
set_option maxHeartbeats 800000 in
set_option maxRecDepth 1000000 in
theorem anchor_true (w : World) : Calls Try.prog 8 #[] w fun e w' => e = .returned (.bool true) ∧ Below w.heap.size w w' := by
  obtain ⟨D1, f1, hd1, hr1, hu1, hs1, hk1⟩ := sdo_one (new_rests (m := 2) (by decide)) (PD.Up.new _) rfl (by decide) (by decide) (i := 1) (by decide) (ii := 1) rfl (b := [97, 98]) (by decide)
  have HD1 := Fact.mk hd1
  have HR1 := Fact.mk hr1
  have HU1 := Fact.mk hu1
  have HS1 := Fact.mk hs1
  have HS0 := Fact.mk (hk1 0 [] (by decide) (SlotIs.none 0))
  clear hd1 hr1 hu1 hs1 hk1
  go_enter Try.func8, Try.ntmps8
  go_wp2_with fail
  refine (made_law w (Below.refl _ _) (m := 2) (by decide) (by decide)).mono ?_
  rintro e w1 ⟨L, q, s, rfl, h1⟩
  have H1 := Fact.mk h1
  clear h1
  go_wp2_with fail
  refine (SLen_any H1.out.slots H1.out.jr.disk H1.out.jr.redo (m := 2) (by rfl)).mono ?_
  rintro e w0 ⟨rfl, rfl⟩
  have hcv := const_two w1 97 98
  go_wp2_with fail
  clear hcv
  have hsee := const_sees w1 w1 97 98 (RS L q) H1.out.jr.lt
  have H2 : Fact (Sl w (w1.alloc (.cells #[.int .u8 97, .int .u8 98] 5 (2, 3))) L (PD.new (100 + 64 * 2)) q s false) := ⟨H1.out.step ((Below.refl _ _).alloc (Nat.le_refl _) _)⟩
  have hch := one_put (w1.alloc (.cells #[.int .u8 97, .int .u8 98] 5 (2, 3))) 39 (RS L q) H2.out.jr.lt 1 ⟨some ⟨w1.heap.size, 0, none⟩, 2, 2⟩ [97, 98] hsee
  have H3 := H2.out.step ((Below.refl _ _).alloc (Nat.le_refl _) (.cells #[.int .i64 1, .slice (some ⟨w1.heap.size, 0, none⟩) 2 2] 39))
  rw [show (w1.alloc (.cells #[.int .u8 97, .int .u8 98] 5 (2, 3))).heap.size = w1.heap.size + 1 from by simp] at hch
  refine (SDo_law H3 (m := 2) (by rfl) _ 1 (l := [(1, [97, 98])]) hch (by simp) HD1.out).mono ?_
  rintro e w4 ⟨rfl, h4, -⟩
  have H4 := Fact.mk h4
  clear h4 hch hsee H3 H2 H1
  go_wp2_with fail
  refine (Get_law H4.out HR1.out HU1.out.down rfl (ii := 1) rfl HS1.out (by decide)).mono ?_
  rintro e w5 ⟨hg, h5, -⟩
  rcases hg with ⟨hg | hg, -⟩
  · exact absurd hg.1 (by decide)
  · obtain ⟨-, g, c, out, rfl, hown, htk, hle⟩ := hg
    have H5 := Fact.mk h5
    have hrd := own_reads_ hown
    have HO5 : Fact (ReadB w5 (some ⟨g, 0, none⟩) 2 [97, 98]) := ⟨by
      have := C_take hrd.2.2 (m := 2) hle
      rwa [show out.take 2 = [97, 98] from htk] at this⟩
    clear h5 hown htk hle hrd H4
    go_wp2_with fail
    refine (Get_law H5.out HR1.out HU1.out.down rfl (ii := 0) rfl HS0.out (by decide)).mono ?_
    rintro e w6 ⟨hg, h6, b6⟩
    rcases hg with ⟨hg | hg, -⟩
    · obtain ⟨-, rfl⟩ := hg
      have H6 := Fact.mk h6
      have HO6 := Fact.mk (Kd.C_below HO5.out b6)
      clear h6 b6 H5 HO5
      go_wp2_with fail
      refine (Used_law H6.out HR1.out HU1.out.down (m := 2) rfl (by decide) (fun i => if i = 1 then [97, 98] else []) (fun i hi => by
        have hc : i = 0 ∨ i = 1 := by omega
        rcases hc with rfl | rfl
        · exact HS0.out
        · exact HS1.out)).mono ?_
      rintro e w7 ⟨v, rfl, hv, h7, b7⟩
      have hus : usedTo (fun i => if i = 1 then [97, 98] else []) 2 = [1] := rfl
      rw [hus] at hv
      obtain ⟨A7, c7, rfl, -, hc7⟩ := Kd.R_reads hv
      obtain ⟨ad, hA, k7⟩ := int_cell hc7 (k := 0) (by decide)
      subst hA
      have H7 := Fact.mk h7
      have hcv7 : (convert 37 9 (.slice (some ⟨g, 0, none⟩) 2 2)).run Try.prog w7 = .ok (.string (strOfNums [97, 98])) w7 := Kd.C_string Try.underlying37 Try.underlying5 Try.underlying9 (Kd.C_below HO6.out b7)
      have hq : ((strOfNums [97, 98]).toList == [97, 98]) = true := by rw [Lib.strOfNums_toList]; rfl
      have k7 : w7.cell? ad = some (.int .i64 1) := by simpa [Addr.add] using k7
      clear hv hc7 h7 b7 H6 HO6
      generalize strOfNums [97, 98] = s0 at *
      simp only [List.length_cons, List.length_nil]
      go_wp2_with fail
      go_ret
      exact ⟨rfl, H7.out.jr.below⟩
    · exact absurd rfl hg.1
end Go.Proofs.Ytdkijmikafmgaaa.Dk
