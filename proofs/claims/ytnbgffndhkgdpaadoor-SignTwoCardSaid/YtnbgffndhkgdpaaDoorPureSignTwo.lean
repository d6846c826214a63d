/-
The law SignTwo: of two texts without quotes in the first, joined by a comma, the elements are those of both.
-/
import Derived.Test.YtnbgffndhkgdpaaDoorPureList
import Derived.Test.YtnbgffndhkgdpaaDoorPureAnchor01
import Derived.Test.YtnbgffndhkgdpaaDoorPx9
namespace Go.Proofs.YtnbgffndhkgdpaaDoor.Pure
open Go.RowKit Go.Proofs.YtnbgffndhkgdpaaDoor.P Go.Proofs.YtnbgffndhkgdpaaDoorW.PrintWords Go.Proofs.YtnbgffndhkgdpaaDoorW.PrintLast Go.Proofs.YtnbgffndhkgdpaaDoorW.PrintMore
set_option linter.unusedVariables false
set_option linter.unusedSimpArgs false

theorem two_loop (a b : ByteArray) (ha : a.size ≤ 500) (hb : b.size ≤ 500) (l : List UInt8) : ∀ (m : List UInt8) i, a.data.toList = m ++ l → (∀ c ∈ m, c ≠ 34) → Sfx a i l → Ev (fun k => pantrylaw01_SignTwo.l0 k a b (a.size : Int) i) true := by
  induction l with
  | nil =>
    intro m i hm hq h
    rw [List.append_nil] at hm
    have hd : ((a ++ (⟨#[44]⟩ : ByteArray)) ++ b).data.toList = a.data.toList ++ 44 :: b.data.toList := by rw [data_app, data_app]; simp
    have hsz : ((a ++ (⟨#[44]⟩ : ByteArray)) ++ b).size = a.size + 1 + b.size := by rw [sz, hd]; simp [← sz]; omega
    have hsz2 : (a ++ (⟨#[44]⟩ : ByteArray)).size = a.size + 1 := by rw [sz, data_app]; simp [← sz]
    refine ev_to (fun k => (sign_List.f k ((a ++ (⟨#[44]⟩ : ByteArray)) ++ b)).bind fun t206 => ((sign_List.f k a).bind fun t209 => ((sign_List.f k b).bind fun t212 => (if t209.length + t212.length < 8796093022208 then ((pantrylaw01_same.f k t206 (t209 ++ t212)).bind fun t218 => (some t218)) else (none))))) ?_ fun k => by
      simp only [pantrylaw01_SignTwo.l0]; rw [if_neg h.stop, if_pos (by omega), if_pos (by omega)]
    refine ev_bind (list_sign _ (by omega)) ?_
    refine ev_bind (list_sign a (by omega)) ?_
    refine ev_bind (list_sign b (by omega)) ?_
    have h1 := elems_length a.data.toList
    have h2 := elems_length b.data.toList
    rw [← sz] at h1 h2
    refine ev_eq _ ?_ fun k => by rw [if_pos (by omega)]
    rw [hd, elems_two _ _ (by rw [hm]; exact hq)]
    refine ev_bind (same_refl _ (by rw [List.length_append]; omega)) ?_
    exact ev_now fun k => rfl
  | cons c l ih =>
    intro m i hm hq h
    by_cases h1 : c = 34
    · refine ev_one fun k => ?_
      simp only [pantrylaw01_SignTwo.l0]; rw [if_pos h.lt, if_pos h.ge, if_pos h.lt, h.bt, if_pos ((e34 c).2 h1)]
    · refine ev_to _ (ih (m ++ [c]) (i + 1) (by rw [hm]; simp) (fun x hx => by rcases List.mem_append.1 hx with hx | hx; exact hq x hx; simp at hx; rw [hx]; exact h1) h.next) fun k => ?_
      simp only [pantrylaw01_SignTwo.l0]; rw [if_pos h.lt, if_pos h.ge, if_pos h.lt, h.bt, if_neg (fun x => h1 ((e34 c).1 x)), h.wrap (by omega)]
theorem SignTwo : ∀ (a0 : ByteArray) (a1 : ByteArray), a0.size ≤ 140737488351232 → a1.size ≤ 140737488351232 → ∃ k, pantrylaw01_SignTwo.f k a0 a1 = some true := by
  intro s t hs ht
  refine Ev.rounds ?_
  unfold pantrylaw01_SignTwo.f
  refine ev_bind anchor_ev ?_
  have hj : Ev (fun k => pantrylaw01_SignTwo.j0 k s t true) true := ev_one fun k => by simp only [pantrylaw01_SignTwo.j0]; rw [if_pos trivial]
  by_cases hbig : (s.size : Int) > 500
  · exact ev_eq _ hj fun k => by rw [if_pos rfl, if_pos hbig]
  · by_cases hbig2 : (t.size : Int) > 500
    · exact ev_eq _ hj fun k => by rw [if_pos rfl, if_neg hbig, decide_eq_true hbig2]
    · refine ev_eq (fun k => pantrylaw01_SignTwo.j0 k s t false) ?_ fun k => by rw [if_pos rfl, if_neg hbig, decide_eq_false hbig2]
      refine ev_to _ (two_loop s t (by omega) (by omega) s.data.toList [] 0 rfl (by simp) (Sfx.start s)) fun k => ?_
      simp only [pantrylaw01_SignTwo.j0]; rw [if_neg (by simp)]

end Go.Proofs.YtnbgffndhkgdpaaDoor.Pure
