/-
The law SignLists: the program's elements are the reference's; none is empty, or has blanks at its ends.
-/
import Derived.Test.YtnbgffndhkgdpaaDoorPureList
import Derived.Test.YtnbgffndhkgdpaaDoorPureAnchor01
import Derived.Test.YtnbgffndhkgdpaaDoorPx4
namespace Go.Proofs.YtnbgffndhkgdpaaDoor.Pure
open Go.RowKit Go.Proofs.YtnbgffndhkgdpaaDoor.P Go.Proofs.YtnbgffndhkgdpaaDoorW.PrintWords Go.Proofs.YtnbgffndhkgdpaaDoorW.PrintLast Go.Proofs.YtnbgffndhkgdpaaDoorW.PrintMore
set_option linter.unusedVariables false
set_option linter.unusedSimpArgs false

theorem lists_loop (s : ByteArray) (hs : s.size ≤ 1000) (E : List ByteArray) (hE : ∀ e ∈ E, e.data.toList ≠ [] ∧ trimB e.data.toList = e.data.toList ∧ e.size ≤ 1000) (hEl : E.length ≤ 1001) (hR : elems s.data.toList = E) (n : Nat) : ∀ i : Nat, i + n = E.length →
    Ev (fun k => pantrylaw01_SignLists.l0 k s E E (E.length : Int) (i : Int)) true := by
  induction n with
  | zero =>
    intro i hi
    refine ev_to (fun k => (pantryref01_List.f k s).bind fun t149 => ((pantrylaw01_same.f k E t149).bind fun t152 => (some t152))) ?_ fun k => by
      simp only [pantrylaw01_SignLists.l0]; rw [if_neg (by omega)]
    refine ev_bind (list_ref s (by omega)) ?_
    rw [hR]
    refine ev_bind (same_refl E (by omega)) ?_
    exact ev_now fun k => rfl
  | succ n ih =>
    intro i hi
    have hw : wrap64 ((i : Int) + 1) = ((i + 1 : Nat) : Int) := by rw [wrap_id (by omega) (by omega)]; omega
    have hlt : i < E.length := by omega
    have he : rdOf ByteArray.empty E (i : Int) = E[i] := by
      unfold rdOf; rw [Int.toNat_natCast, List.getD_eq_getElem?_getD, List.getElem?_eq_getElem hlt]; rfl
    obtain ⟨e1, e2, e3⟩ := hE E[i] (List.getElem_mem hlt)
    have ht := trim_sign E[i] (by omega)
    rw [e2, mk_eta] at ht
    refine ev_to _ (ih (i + 1) (by omega)) fun k => ?_
    simp only [pantrylaw01_SignLists.l0]; rw [if_pos (by omega), if_pos (by omega), if_pos (by omega), he, tl, if_neg e1, bind_some ht, tl, if_pos rfl, hw]
theorem keep_mem (L : List (List UInt8)) (e : ByteArray) (h : e ∈ keep L) : ∃ x ∈ L, e.data.toList = trimB x ∧ e.data.toList ≠ [] := by
  unfold keep at h
  obtain ⟨y, hy, rfl⟩ := List.mem_map.1 h
  obtain ⟨hy1, hy2⟩ := List.mem_filter.1 hy
  obtain ⟨x, hx, rfl⟩ := List.mem_map.1 hy1
  refine ⟨x, hx, rfl, ?_⟩
  intro hn
  have : trimB x = [] := hn
  rw [this] at hy2; simp at hy2
theorem segs_len (l : List UInt8) : ∀ q sk cur, ∀ x ∈ segs q sk cur l, x.length ≤ cur.length + l.length := by
  induction l with
  | nil => intro q sk cur x hx; simp [segs] at hx; subst hx; simp
  | cons c l ih =>
    intro q sk cur x hx
    rw [segs] at hx
    split at hx
    · rcases List.mem_cons.1 hx with rfl | hx
      · simp
      · have := ih false false [] x hx; simp at this ⊢; omega
    · have := ih _ _ _ x hx; simp at this ⊢; omega
theorem SignLists : ∀ (a0 : ByteArray), a0.size ≤ 140737488351232 → ∃ k, pantrylaw01_SignLists.f k a0 = some true := by
  intro s hs
  refine Ev.rounds ?_
  unfold pantrylaw01_SignLists.f
  refine ev_bind anchor_ev ?_
  by_cases hbig : (s.size : Int) > 1000
  · exact ev_now fun k => by rw [if_pos rfl, if_pos hbig]
  · refine ev_eq _ ?_ fun k => by rw [if_pos rfl, if_neg hbig]
    refine ev_bind (list_sign s (by omega)) ?_
    refine lists_loop s (by omega) _ (fun e he => ?_) (by have := elems_length s.data.toList; rw [← sz] at this; omega) rfl (elems s.data.toList).length 0 (by omega)
    obtain ⟨x, hx, h1, h2⟩ := keep_mem _ e he
    refine ⟨h2, by rw [h1, trimB_idem], ?_⟩
    have := segs_len _ _ _ _ x hx
    have h3 := trimB_length x
    rw [sz, h1]
    rw [← sz] at this
    simp at this; omega

end Go.Proofs.YtnbgffndhkgdpaaDoor.Pure
