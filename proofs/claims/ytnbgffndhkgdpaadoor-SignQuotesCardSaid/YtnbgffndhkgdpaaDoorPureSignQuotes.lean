/-
The law SignQuotes: Unquote is the reference's; a text in quotes, with backslashes, says itself.
-/
import Derived.Test.YtnbgffndhkgdpaaDoorPureUnq
import Derived.Test.YtnbgffndhkgdpaaDoorPureAnchor01
import Derived.Test.YtnbgffndhkgdpaaDoorPx7
namespace Go.Proofs.YtnbgffndhkgdpaaDoor.Pure
open Go.RowKit Go.Proofs.YtnbgffndhkgdpaaDoor.P Go.Proofs.YtnbgffndhkgdpaaDoorW.PrintWords Go.Proofs.YtnbgffndhkgdpaaDoorW.PrintLast Go.Proofs.YtnbgffndhkgdpaaDoorW.PrintMore
set_option linter.unusedVariables false
set_option linter.unusedSimpArgs false

def escB (c : UInt8) : List UInt8 := if c = 34 ∨ c = 92 then [92, c] else [c]
def escS : List UInt8 → List UInt8
  | [] => []
  | c :: l => escB c ++ escS l
theorem escS_length (l : List UInt8) : (escS l).length ≤ 2 * l.length := by
  induction l with
  | nil => simp [escS]
  | cons c l ih => rw [escS, List.length_append]; unfold escB; split <;> simp <;> omega
theorem unqT_esc (l : List UInt8) : ∀ out, unqT out (escS l ++ [34]) = some (out ++ l) := by
  induction l with
  | nil => intro out; show unqT out [34] = _; rw [unqT, if_pos rfl]; simp
  | cons c l ih =>
    intro out
    rw [escS]
    unfold escB
    by_cases h : c = 34 ∨ c = 92
    · rw [if_pos h]
      show unqT out (92 :: c :: (escS l ++ [34])) = _
      rw [unqT, if_neg (by decide), if_pos rfl, ih]; simp
    · rw [if_neg h]
      obtain ⟨d, t, hdt⟩ : ∃ d t, escS l ++ [34] = d :: t := by
        cases hh : escS l ++ [34] with
        | nil => simp at hh
        | cons d t => exact ⟨d, t, rfl⟩
      show unqT out (c :: (escS l ++ [34])) = _
      rw [hdt, unqT, if_neg (fun x => h (.inl x)), if_neg (fun x => h (.inr x)), ← hdt, ih]; simp
theorem quotes_loop (s : ByteArray) (hs : s.size ≤ 1000) (l : List UInt8) : ∀ (m : List UInt8) (q : ByteArray) i, s.data.toList = m ++ l → q.data.toList = 34 :: escS m → Sfx s i l → Ev (fun k => pantrylaw01_SignQuotes.l0 k s q (s.size : Int) i) true := by
  induction l with
  | nil =>
    intro m q i hm hq h
    rw [List.append_nil] at hm
    have hqs : q.size = 1 + (escS m).length := by rw [sz, hq]; simp; omega
    have hel := escS_length m
    have hml : m.length = s.size := by rw [← hm, ← sz]
    have hd : (q ++ (⟨#[34]⟩ : ByteArray)).data.toList = 34 :: (escS m ++ [34]) := by rw [data_app, hq]; simp
    have hds : (q ++ (⟨#[34]⟩ : ByteArray)).size = q.size + 1 := by rw [sz, hd, hqs]; simp; omega
    have hu : unqS (34 :: (escS m ++ [34])) = (⟨m.toArray⟩, true) := by
      unfold unqS
      rw [if_neg (by unfold tokS; simp [List.all_cons, show tokB 34 = false by decide]), unqQ, if_pos rfl, unqT_esc]; rfl
    have hU := unq_sign (q ++ (⟨#[34]⟩ : ByteArray)) (by omega)
    rw [hd, hu] at hU
    refine ev_to (fun k => (sign_Unquote.f k (q ++ (⟨#[34]⟩ : ByteArray))).bind fun bt182 => (if bt182.2 = true then (some (bt182.1.toList == s.toList)) else (some false))) ?_ fun k => by
      simp only [pantrylaw01_SignQuotes.l0]; rw [if_neg h.stop, if_pos (by omega)]
    refine ev_bind hU ?_
    refine ev_now fun k => ?_
    rw [if_pos rfl, tl, tl, hm]; simp
  | cons c l ih =>
    intro m q i hm hq h
    have hqs : q.size = 1 + (escS m).length := by rw [sz, hq]; simp; omega
    have hel := escS_length m
    have hml : m.length ≤ s.size := by rw [sz, hm]; simp
    have hcut : (s.extract i.toNat (i + 1).toNat).data.toList = [c] := h.part (l := [c]) (m := l) (i + 1) (by simp)
    have hcs : (s.extract i.toNat (i + 1).toNat).size = 1 := by rw [sz, hcut]; rfl
    have hlt := h.lt
    have hge := h.ge
    have e_snoc : ∀ x, escS (m ++ [x]) = escS m ++ escB x := by
      intro x
      clear hm hq hqs hel hml
      induction m with
      | nil => simp [escS]
      | cons y m ih => rw [List.cons_append, escS, escS, ih, List.append_assoc]
    by_cases h34 : c = 34
    · have hQ : ((q ++ (⟨#[92]⟩ : ByteArray)) ++ (s.extract i.toNat (i + 1).toNat)).data.toList = 34 :: escS (m ++ [c]) := by
        rw [data_app, data_app, hq, hcut, e_snoc]; unfold escB; rw [if_pos (.inl h34)]; simp
      have hq2 : (q ++ (⟨#[92]⟩ : ByteArray)).size = q.size + 1 := by rw [sz, data_app]; simp [← sz]
      refine ev_to _ (ih (m ++ [c]) _ (i + 1) (by rw [hm]; simp) hQ h.next) fun k => ?_
      simp only [pantrylaw01_SignQuotes.l0]; rw [if_pos h.lt, if_pos h.ge, if_pos h.lt, h.bt, if_pos ((c34 c).2 h34), h.wrap (by omega), if_pos (by omega), if_pos (by omega), if_pos (by omega), if_pos (by omega)]
    · by_cases h92 : c = 92
      · have hQ : ((q ++ (⟨#[92]⟩ : ByteArray)) ++ (s.extract i.toNat (i + 1).toNat)).data.toList = 34 :: escS (m ++ [c]) := by
          rw [data_app, data_app, hq, hcut, e_snoc]; unfold escB; rw [if_pos (.inr h92)]; simp
        have hq2 : (q ++ (⟨#[92]⟩ : ByteArray)).size = q.size + 1 := by rw [sz, data_app]; simp [← sz]
        refine ev_to _ (ih (m ++ [c]) _ (i + 1) (by rw [hm]; simp) hQ h.next) fun k => ?_
        simp only [pantrylaw01_SignQuotes.l0]; rw [if_pos h.lt, if_pos h.ge, if_pos h.lt, h.bt, if_neg (fun x => h34 ((c34 c).1 x)), if_pos ((c92 c).2 h92), h.wrap (by omega), if_pos (by omega), if_pos (by omega), if_pos (by omega), if_pos (by omega)]
      · have hQ : (q ++ (s.extract i.toNat (i + 1).toNat)).data.toList = 34 :: escS (m ++ [c]) := by
          rw [data_app, hq, hcut, e_snoc]; unfold escB; rw [if_neg (by rintro (x | x); exact h34 x; exact h92 x)]; simp
        refine ev_to _ (ih (m ++ [c]) _ (i + 1) (by rw [hm]; simp) hQ h.next) fun k => ?_
        simp only [pantrylaw01_SignQuotes.l0]; rw [if_pos h.lt, if_pos h.ge, if_pos h.lt, h.bt, if_neg (fun x => h34 ((c34 c).1 x)), if_neg (fun x => h92 ((c92 c).1 x)), h.wrap (by omega), if_pos (by omega), if_pos (by omega), if_pos (by omega)]
theorem SignQuotes : ∀ (a0 : ByteArray), a0.size ≤ 140737488351232 → ∃ k, pantrylaw01_SignQuotes.f k a0 = some true := by
  intro s hs
  refine Ev.rounds ?_
  unfold pantrylaw01_SignQuotes.f
  refine ev_bind anchor_ev ?_
  by_cases hbig : (s.size : Int) > 1000
  · exact ev_now fun k => by rw [if_pos rfl, if_pos hbig]
  · refine ev_eq _ ?_ fun k => by rw [if_pos rfl, if_neg hbig]
    refine ev_bind (unq_sign s (by omega)) ?_
    refine ev_bind (unq_ref s (by omega)) ?_
    refine ev_eq (fun k => pantrylaw01_SignQuotes.j0 k s false) ?_ fun k => by rw [if_neg (by simp)]; simp
    refine ev_to _ (quotes_loop s (by omega) s.data.toList [] ⟨#[34]⟩ 0 rfl rfl (Sfx.start s)) fun k => ?_
    simp only [pantrylaw01_SignQuotes.j0]; rw [if_neg (by simp)]

end Go.Proofs.YtnbgffndhkgdpaaDoor.Pure
