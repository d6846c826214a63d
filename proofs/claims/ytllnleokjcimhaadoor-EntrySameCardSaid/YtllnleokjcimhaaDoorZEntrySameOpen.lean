import Derived.Test.YtllnleokjcimhaaDoorZEntrySameWWords
import Derived.Test.YtllnleokjcimhaaDoorZEntrySameWLast
import Derived.Test.YtllnleokjcimhaaDoorZEntrySameWMore
import Derived.ProofKit
import Derived.ChangeArms
import Derived.SizedLaws
import Derived.OpenShut
namespace Go.Proofs.YtllnleokjcimhaaDoor.P
open Go.RowKit Go.Proofs.YtllnleokjcimhaaDoorW.PrintWords Go.Proofs.YtllnleokjcimhaaDoorW.PrintLast Go.Proofs.YtllnleokjcimhaaDoorW.PrintMore
set_option linter.unusedVariables false
set_option linter.unusedSimpArgs false
/-- What is read as a datum of type t is told by the kind d, and is good. -/
def Opens {α : Type} (P : Program) (t : TypeId) (d : Kd α) (good : α → Prop) : Prop :=
  ∀ {H : Type} (enc : TypeId × Value → H) (w : World) (spare : Nat → Bool) (held : Bool) (fuel : Nat) (cs : List Value) (x : DataW H × List MemPlace),
    DataW.trod enc P w 0 spare held fuel t cs = some x → ∃ a, d.K w a cs ∧ good a
theorem Opens.int {P : Program} {t : TypeId} {k : IntKind} (ht : P.underlying t = some (.int k)) : Opens P t (Kd.int k) (fun n => (Lit.int k n).wf = true) := by
  intro H enc w spare held fuel cs x h
  obtain ⟨n, rfl, _, hw⟩ := DataW.trod_int ht h
  exact ⟨n, rfl, hw⟩
theorem Opens.bool {P : Program} {t : TypeId} (ht : P.underlying t = some .bool) : Opens P t Kd.bool (fun _ => True) := by
  intro H enc w spare held fuel cs x h
  obtain ⟨b, rfl, _⟩ := DataW.trod_bool ht h
  exact ⟨b, rfl, trivial⟩
theorem Opens.string {P : Program} {t : TypeId} (ht : P.underlying t = some .string) : Opens P t Kd.string (fun s => s.size ≤ 9223372036854775807) := by
  intro H enc w spare held fuel cs x h
  obtain ⟨s, rfl, _, hs⟩ := DataW.trod_string ht h
  exact ⟨s, rfl, hs⟩
theorem choose_list {α : Type} {p : Nat → α → Prop} : ∀ n : Nat, (∀ i, i < n → ∃ a, p i a) → ∃ l : List α, l.length = n ∧ ∀ i a, l[i]? = some a → p i a
  | 0, _ => ⟨[], rfl, fun i a h => by simp at h⟩
  | n + 1, h => by
    obtain ⟨l, hl, hp⟩ := choose_list n (fun i hi => h i (by omega))
    obtain ⟨a, ha⟩ := h n (by omega)
    refine ⟨l ++ [a], by simp [hl], fun i b hb => ?_⟩
    rcases Nat.lt_or_ge i l.length with h1 | h1
    · rw [List.getElem?_append_left h1] at hb; exact hp i b hb
    · rw [List.getElem?_append_right h1] at hb
      have h2 : i - l.length < 1 := by
        have := (List.getElem?_eq_some_iff.1 hb).1
        simpa using this
      have h3 : i = n := by omega
      subst h3
      rw [show i - l.length = 0 from by omega] at hb
      simp at hb; subst hb; exact ha
theorem addr_add (a : Addr) (i j : Nat) : (a.add i).add j = a.add (i + j) := by
  unfold Addr.add
  by_cases hi : i = 0 <;> by_cases hj : j = 0 <;> simp [hi, hj, Nat.add_assoc]
theorem cells_some {w : World} {base : Nat} {a : Addr} {n : Nat} {cs : List Value} (h : w.cells? base a n = some cs) : cs.length = n ∧ ∀ i u, cs[i]? = some u → w.cell? (a.add i) = some u := by
  unfold World.cells? at h
  split at h
  · have hl : cs.length = n := by simpa using mapM_some_length h
    refine ⟨hl, fun i u hu => ?_⟩
    have hi : i < n := by have := (List.getElem?_eq_some_iff.1 hu).1; omega
    have := mapM_some_get h i i (by simp [hi])
    rw [hu] at this; exact this
  · cases h
theorem Opens.slice {α : Type} {P : Program} {t e : TypeId} {d : Kd α} {good : α → Prop} (ht : P.underlying t = some (.slice e)) (ho : Opens P e d good) (hs : P.cellsOf e = d.sz) :
    Opens P t (Kd.slice e d) (fun l => l.length ≤ 9223372036854775807 ∧ ∀ x ∈ l, good x) := by
  intro H enc w spare held fuel cs x h
  rcases DataW.trod_slice ht h with ⟨rfl, _⟩ | ⟨a, len, cap, elems, rest, n, rfl, rfl, _, hb, hl, hm, hlen, hel, _, _⟩
  · exact ⟨[], ⟨none, 0, rfl, Nat.le_refl _, rfl, Nat.zero_le _, fun h => absurd h (by simp)⟩, by simp, fun x hx => by cases hx⟩
  · have hm' : len ≤ 9223372036854775807 := by unfold maxLen at hm; omega
    obtain ⟨l, hll, hlp⟩ := choose_list (p := fun i b => (∃ c, c.length = d.sz ∧ d.K w b c ∧ ∀ j u, c[j]? = some u → w.cell? (a.add (i * d.sz + j)) = some u) ∧ good b) len (fun i hi => by
      have h1 := hel i hi
      have h2 : i < elems.length := by omega
      rw [List.getElem?_eq_getElem h2] at h1
      obtain ⟨c, hc, hd⟩ := Option.bind_eq_some_iff.1 h1
      obtain ⟨b, hK, hg⟩ := ho enc w spare held n c _ hd
      obtain ⟨hcl, hcc⟩ := cells_some hc
      refine ⟨b, ⟨c, d.K_len hK, hK, fun j u hu => ?_⟩, hg⟩
      have := hcc j u hu
      rw [addr_add, hs] at this; exact this)
    refine ⟨l, ⟨some a, cap, by rw [hll], by omega, rfl, by omega, fun _ => ⟨a, rfl, fun j b hb => (hlp j b hb).1⟩⟩, by omega, fun b hb => ?_⟩
    obtain ⟨j, hj⟩ := List.mem_iff_getElem?.1 hb
    exact (hlp j b hj).2
theorem Opens.imp {α : Type} {P : Program} {t : TypeId} {d : Kd α} {good good' : α → Prop} (h : Opens P t d good) (hg : ∀ a, good a → good' a) : Opens P t d good' := by
  intro H enc w spare held fuel cs x hx
  obtain ⟨a, h1, h2⟩ := h enc w spare held fuel cs x hx
  exact ⟨a, h1, hg a h2⟩
/-- A struct's field: what stands at its place. -/
theorem field_opens {α : Type} {P : Program} {H : Type} {enc : TypeId × Value → H} {w : World} {spare : Nat → Bool} {held : Bool} {n : Nat} {cs : List Value} {xs : List (DataW H × List MemPlace)} {fs : Array Field}
    (hx : xs.length = fs.size) (hf : ∀ (i : Nat) (f : Field), fs[i]? = some f → DataW.trod enc P w 0 spare held n f.type ((cs.drop f.offset).take (P.cellsOf f.type)) = xs[i]?)
    {d : Kd α} {good : α → Prop} (i : Nat) (f : Field) (hi : fs[i]? = some f) (ho : Opens P f.type d good) (hs : P.cellsOf f.type = d.sz) : ∃ a, d.K w a ((cs.drop f.offset).take d.sz) ∧ good a := by
  have h1 := hf i f hi
  have h2 : i < xs.length := by rw [hx]; exact (Array.getElem?_eq_some_iff.1 hi).1
  rw [List.getElem?_eq_getElem h2, hs] at h1
  exact ho enc w spare held n _ _ h1
theorem split_cells (cs : List Value) (a b : Nat) : cs.drop a = (cs.drop a).take b ++ cs.drop (a + b) := by
  rw [← List.drop_drop, List.take_append_drop]
theorem last_cells (cs : List Value) (a b : Nat) (h : cs.length = a + b) : cs.drop a = (cs.drop a).take b := by
  rw [List.take_of_length_le]; simp; omega
/-- A struct's fields from number i on (its cells from off on), told by the kind d. -/
structure Fields {α : Type} (P : Program) (fs : Array Field) (i off : Nat) (d : Kd α) (good : α → Prop) : Prop where
  out : ∀ {H : Type} (enc : TypeId × Value → H) (w : World) (spare : Nat → Bool) (held : Bool) (n : Nat) (cs : List Value) (xs : List (DataW H × List MemPlace)),
    xs.length = fs.size → (∀ (i : Nat) (f : Field), fs[i]? = some f → DataW.trod enc P w 0 spare held n f.type ((cs.drop f.offset).take (P.cellsOf f.type)) = xs[i]?) → cs.length = off + d.sz → ∃ a, d.K w a (cs.drop off) ∧ good a
theorem Fields.last {α : Type} {P : Program} {fs : Array Field} {i off : Nat} {d : Kd α} {good : α → Prop} {f : Field} (hi : fs[i]? = some f) (ho : f.offset = off) (h : Opens P f.type d good) (hs : P.cellsOf f.type = d.sz) : Fields P fs i off d good := by
  refine ⟨?_⟩
  intro H enc w spare held n cs xs hx hf hl
  obtain ⟨a, h1, h2⟩ := field_opens hx hf i f hi h hs
  rw [ho, ← last_cells cs off d.sz hl] at h1
  exact ⟨a, h1, h2⟩
theorem Fields.cons {α β : Type} {P : Program} {fs : Array Field} {i off : Nat} {d : Kd α} {d2 : Kd β} {good : α → Prop} {good2 : β → Prop} {f : Field} (hi : fs[i]? = some f) (ho : f.offset = off) (h : Opens P f.type d good) (hs : P.cellsOf f.type = d.sz) (h2 : Fields P fs (i + 1) (off + d.sz) d2 good2) : Fields P fs i off (Kd.pair d d2) (fun x => good x.1 ∧ good2 x.2) := by
  refine ⟨?_⟩
  intro H enc w spare held n cs xs hx hf hl
  have hl2 : cs.length = off + (d.sz + d2.sz) := hl
  obtain ⟨a, h1, g1⟩ := field_opens hx hf i f hi h hs
  obtain ⟨b, h3, g2⟩ := h2.out enc w spare held n cs xs hx hf (by omega)
  rw [ho] at h1
  exact ⟨(a, b), ⟨_, _, split_cells cs off d.sz, h1, h3⟩, g1, g2⟩
theorem Opens.struct {α : Type} {P : Program} {t : TypeId} {fs : Array Field} {d : Kd α} {good : α → Prop} (ht : P.underlying t = some (.struct fs)) (h : Fields P fs 0 0 d good) (hs : P.cellsOf t = d.sz) : Opens P t d good := by
  intro H enc w spare held fuel cs x hx
  obtain ⟨xs, n, _, _, hl, hlen, hf⟩ := DataW.trod_struct ht hx
  have := h.out enc w spare held n cs xs hlen hf (by omega)
  simpa using this
theorem Opens.iso {α β : Type} {P : Program} {t : TypeId} {d : Kd α} {good : α → Prop} (h : Opens P t d good) (f : β → α) (g : α → β) (hg : ∀ a, f (g a) = a) : Opens P t (Kd.iso d f) (fun b => good (f b)) := by
  intro H enc w spare held fuel cs x hx
  obtain ⟨a, h1, h2⟩ := h enc w spare held fuel cs x hx
  refine ⟨g a, ?_, ?_⟩
  · show d.K w (f (g a)) cs
    rw [hg]; exact h1
  · show good (f (g a))
    rw [hg]; exact h2
end Go.Proofs.YtllnleokjcimhaaDoor.P
