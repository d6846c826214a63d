import Derived.Test.YtnbgffndhkgdpaaDoorPureTok
import Derived.Test.YtnbgffndhkgdpaaDoorPureLow
import Derived.Test.YtnbgffndhkgdpaaDoorPx2
import Derived.Test.YtnbgffndhkgdpaaDoorPx6
namespace Go.Proofs.YtnbgffndhkgdpaaDoor.Pure
open Go.RowKit Go.Proofs.YtnbgffndhkgdpaaDoor.P Go.Proofs.YtnbgffndhkgdpaaDoorW.PrintWords Go.Proofs.YtnbgffndhkgdpaaDoorW.PrintLast Go.Proofs.YtnbgffndhkgdpaaDoorW.PrintMore
set_option linter.unusedVariables false
set_option linter.unusedSimpArgs false

/-! ### quoted texts -/
def unqT : List UInt8 → List UInt8 → Option (List UInt8)
  | _, [] => none
  | out, [c] => if c = 34 then some out else none
  | out, c :: d :: l => if c = 34 then none else if c = 92 then unqT (out ++ [d]) l else unqT (out ++ [c]) (d :: l)
def refU : List UInt8 → List UInt8 → Option (List UInt8)
  | out, [] => some out
  | out, [c] => if c = 34 then none else if c = 92 then none else some (out ++ [c])
  | out, c :: d :: l => if c = 34 then none else if c = 92 then refU (out ++ [d]) l else refU (out ++ [c]) (d :: l)
def res : Option (List UInt8) → ByteArray × Bool
  | none => (⟨#[]⟩, false)
  | some o => (⟨o.toArray⟩, true)
def unqQ : List UInt8 → ByteArray × Bool
  | c :: t => if c = 34 then res (unqT [] t) else (⟨#[]⟩, false)
  | [] => (⟨#[]⟩, false)
/-- What Unquote tells. -/
def unqS (l : List UInt8) : ByteArray × Bool := if tokS l then (⟨l.toArray⟩, true) else unqQ l
theorem c34 (c : UInt8) : (c.toNat : Int) = 34 ↔ c = 34 := by
  constructor
  · intro h; apply UInt8.toNat_inj.1; have : c.toNat = 34 := by omega
    exact this
  · rintro rfl; rfl
theorem c92 (c : UInt8) : (c.toNat : Int) = 92 ↔ c = 92 := by
  constructor
  · intro h; apply UInt8.toNat_inj.1; have : c.toNat = 92 := by omega
    exact this
  · rintro rfl; rfl
theorem unq_loop (s : ByteArray) (hs : s.size ≤ 140737488351232) (n : Nat) : ∀ l, l.length ≤ n → ∀ i out, Sfx s i l → out.length + l.length ≤ s.size → Ev (fun k => sign_Unquote.l0 k s (il out) i) (res (unqT out l)) := by
  induction n with
  | zero =>
    intro l hl i out h ho
    have : l = [] := List.length_eq_zero_iff.1 (by omega)
    subst this
    refine ev_one fun k => ?_
    simp only [sign_Unquote.l0]; rw [if_neg h.stop, unqT]; rfl
  | succ n ih =>
    intro l hl i out h ho
    match l, h, hl, ho with
    | [], h, _, _ =>
      refine ev_one fun k => ?_
      simp only [sign_Unquote.l0]; rw [if_neg h.stop, unqT]; rfl
    | [c], h, _, ho =>
      have hn := h.next.last
      have hg := h.ge
      have hw : wrap64 ((s.size : Int) - 1) = i := by rw [wrap_id (by omega) (by omega)]; omega
      by_cases h1 : c = 34
      · refine ev_one fun k => ?_
        simp only [sign_Unquote.l0]; rw [if_pos h.lt, if_pos h.ge, h.bt, if_pos ((c34 c).2 h1), hw, if_neg (by omega), unqT, if_pos h1, strOf_il]; rfl
      · by_cases h2 : c = 92
        · refine ev_one fun k => ?_
          simp only [sign_Unquote.l0]; rw [if_pos h.lt, if_pos h.ge, h.bt, if_neg (fun x => h1 ((c34 c).1 x)), if_pos ((c92 c).2 h2), h.wrap (by omega), if_pos hn, unqT, if_neg h1]; rfl
        · simp at ho
          refine ev_to _ (ev_rw (ih [] (by simp) (i + 1) (out ++ [c]) h.next (by simp; omega)) (by rw [unqT, unqT, if_neg h1])) fun k => ?_
          simp only [sign_Unquote.l0]; rw [if_pos h.lt, if_pos h.ge, h.bt, if_neg (fun x => h1 ((c34 c).1 x)), if_neg (fun x => h2 ((c92 c).1 x)), if_pos (by rw [il_length]; omega), h.wrap (by omega), il_app, il_one]
    | c :: d :: l, h, hl, ho =>
      have hn := h.next.lt
      have hg := h.ge
      simp at hl ho
      have hw : wrap64 ((s.size : Int) - 1) = (s.size : Int) - 1 := wrap_id (by omega) (by omega)
      by_cases h1 : c = 34
      · refine ev_one fun k => ?_
        simp only [sign_Unquote.l0]; rw [if_pos h.lt, if_pos h.ge, h.bt, if_pos ((c34 c).2 h1), hw, if_pos (by omega), unqT, if_pos h1]; rfl
      · by_cases h2 : c = 92
        · refine ev_to _ (ev_rw (ih l (by omega) (i + 1 + 1) (out ++ [d]) h.next.next (by simp; omega)) (by rw [unqT, if_neg h1, if_pos h2])) fun k => ?_
          simp only [sign_Unquote.l0]; rw [if_pos h.lt, if_pos h.ge, h.bt, if_neg (fun x => h1 ((c34 c).1 x)), if_pos ((c92 c).2 h2), h.wrap (by omega), if_neg (by omega), if_pos (by omega), if_pos hn, h.next.bt, if_pos (by rw [il_length]; omega), h.next.wrap (by omega), il_app, il_one]
        · refine ev_to _ (ev_rw (ih (d :: l) (by simp; omega) (i + 1) (out ++ [c]) h.next (by simp; omega)) (by rw [unqT, if_neg h1, if_neg h2])) fun k => ?_
          simp only [sign_Unquote.l0]; rw [if_pos h.lt, if_pos h.ge, h.bt, if_neg (fun x => h1 ((c34 c).1 x)), if_neg (fun x => h2 ((c92 c).1 x)), if_pos (by rw [il_length]; omega), h.wrap (by omega), il_app, il_one]
theorem unq_ref_loop (s : ByteArray) (hs : s.size ≤ 140737488351232) (n : Nat) : ∀ l, l.length ≤ n → ∀ i out, Sfx s i l → out.length + l.length ≤ s.size → Ev (fun k => pantryref01_Unquote.l0 k (il out) s i) (res (refU out l)) := by
  induction n with
  | zero =>
    intro l hl i out h ho
    have : l = [] := List.length_eq_zero_iff.1 (by omega)
    subst this
    refine ev_one fun k => ?_
    simp only [pantryref01_Unquote.l0]; rw [if_neg h.stop, refU, strOf_il]; rfl
  | succ n ih =>
    intro l hl i out h ho
    match l, h, hl, ho with
    | [], h, _, _ =>
      refine ev_one fun k => ?_
      simp only [pantryref01_Unquote.l0]; rw [if_neg h.stop, refU, strOf_il]; rfl
    | [c], h, _, ho =>
      have hn := h.next.last
      have hg := h.ge
      by_cases h1 : c = 34
      · refine ev_one fun k => ?_
        simp only [pantryref01_Unquote.l0]; rw [if_pos h.lt, if_pos h.ge, h.bt, if_pos ((c34 c).2 h1), refU, if_pos h1]; rfl
      · by_cases h2 : c = 92
        · refine ev_one fun k => ?_
          simp only [pantryref01_Unquote.l0]; rw [if_pos h.lt, if_pos h.ge, h.bt, if_neg (fun x => h1 ((c34 c).1 x)), if_pos ((c92 c).2 h2), h.wrap (by omega), if_pos hn, refU, if_neg h1, if_pos h2]; rfl
        · simp at ho
          refine ev_to _ (ev_rw (ih [] (by simp) (i + 1) (out ++ [c]) h.next (by simp; omega)) (by rw [refU, refU, if_neg h1, if_neg h2])) fun k => ?_
          simp only [pantryref01_Unquote.l0]; rw [if_pos h.lt, if_pos h.ge, h.bt, if_neg (fun x => h1 ((c34 c).1 x)), if_neg (fun x => h2 ((c92 c).1 x)), if_pos (by rw [il_length]; omega), h.wrap (by omega), il_app, il_one]
    | c :: d :: l, h, hl, ho =>
      have hn := h.next.lt
      have hg := h.ge
      simp at hl ho
      by_cases h1 : c = 34
      · refine ev_one fun k => ?_
        simp only [pantryref01_Unquote.l0]; rw [if_pos h.lt, if_pos h.ge, h.bt, if_pos ((c34 c).2 h1), refU, if_pos h1]; rfl
      · by_cases h2 : c = 92
        · refine ev_to _ (ev_rw (ih l (by omega) (i + 1 + 1) (out ++ [d]) h.next.next (by simp; omega)) (by rw [refU, if_neg h1, if_pos h2])) fun k => ?_
          simp only [pantryref01_Unquote.l0]; rw [if_pos h.lt, if_pos h.ge, h.bt, if_neg (fun x => h1 ((c34 c).1 x)), if_pos ((c92 c).2 h2), h.wrap (by omega), if_neg (by omega), if_pos (by omega), if_pos hn, h.next.bt, if_pos (by rw [il_length]; omega), h.next.wrap (by omega), il_app, il_one]
        · refine ev_to _ (ev_rw (ih (d :: l) (by simp; omega) (i + 1) (out ++ [c]) h.next (by simp; omega)) (by rw [refU, if_neg h1, if_neg h2])) fun k => ?_
          simp only [pantryref01_Unquote.l0]; rw [if_pos h.lt, if_pos h.ge, h.bt, if_neg (fun x => h1 ((c34 c).1 x)), if_neg (fun x => h2 ((c92 c).1 x)), if_pos (by rw [il_length]; omega), h.wrap (by omega), il_app, il_one]
theorem unqT_end (n : Nat) : ∀ l : List UInt8, l.length ≤ n → ∀ out, unqT out (l ++ [34]) = refU out l := by
  induction n with
  | zero =>
    intro l hl out
    have : l = [] := List.length_eq_zero_iff.1 (by omega)
    subst this; rfl
  | succ n ih =>
    intro l hl out
    match l, hl with
    | [], _ => rfl
    | [c], _ =>
      show unqT out (c :: 34 :: []) = _
      rw [unqT, refU]
      by_cases h1 : c = 34
      · rw [if_pos h1, if_pos h1]
      · rw [if_neg h1, if_neg h1]
        by_cases h2 : c = 92
        · rw [if_pos h2, if_pos h2, unqT]
        · rw [if_neg h2, if_neg h2, unqT, if_pos rfl]
    | c :: d :: l, hl =>
      simp at hl
      show unqT out (c :: d :: (l ++ [34])) = _
      rw [unqT, refU]
      by_cases h1 : c = 34
      · rw [if_pos h1, if_pos h1]
      · rw [if_neg h1, if_neg h1]
        by_cases h2 : c = 92
        · rw [if_pos h2, if_pos h2]; exact ih l (by omega) _
        · rw [if_neg h2, if_neg h2]; exact ih (d :: l) (by simp; omega) _
theorem unqT_other (n : Nat) : ∀ l : List UInt8, l.length ≤ n → ∀ out x, x ≠ 34 → unqT out (l ++ [x]) = none := by
  induction n with
  | zero =>
    intro l hl out x hx
    have : l = [] := List.length_eq_zero_iff.1 (by omega)
    subst this
    show unqT out [x] = none
    rw [unqT, if_neg hx]
  | succ n ih =>
    intro l hl out x hx
    match l, hl with
    | [], _ =>
      show unqT out [x] = none
      rw [unqT, if_neg hx]
    | [c], _ =>
      show unqT out (c :: x :: []) = _
      rw [unqT]
      by_cases h1 : c = 34
      · rw [if_pos h1]
      · rw [if_neg h1]
        by_cases h2 : c = 92
        · rw [if_pos h2, unqT]
        · rw [if_neg h2, unqT, if_neg hx]
    | c :: d :: l, hl =>
      simp at hl
      show unqT out (c :: d :: (l ++ [x])) = _
      rw [unqT]
      by_cases h1 : c = 34
      · rw [if_pos h1]
      · rw [if_neg h1]
        by_cases h2 : c = 92
        · rw [if_pos h2]; exact ih l (by omega) _ _ hx
        · rw [if_neg h2]; exact ih (d :: l) (by simp; omega) _ _ hx
theorem unq_sign (s : ByteArray) (hs : s.size ≤ 140737488351232) : Ev (fun k => sign_Unquote.f k s) (unqS s.data.toList) := by
  unfold sign_Unquote.f
  refine ev_bind (token_sign s (by omega)) ?_
  unfold unqS
  by_cases ht : tokS s.data.toList = true
  · rw [if_pos ht]
    refine ev_now fun k => ?_
    rw [if_pos ht, mk_eta]
  · rw [if_neg ht]
    have hq : s.size = s.data.toList.length := sz s
    have hS := Sfx.start s
    generalize hl : s.data.toList = l at *
    refine ev_eq _ ?_ fun k => by rw [if_neg ht]
    match l, hS, hq with
    | [], hS, hq =>
      refine ev_mk 1 fun k => ?_
      have hq0 : s.size = 0 := hq
      rw [if_pos (by omega)]; simp only [sign_Unquote.j0]; rw [if_pos trivial]; rfl
    | [c], hS, hq =>
      refine ev_mk 1 fun k => ?_
      rw [if_pos (by simp at hq; omega)]; simp only [sign_Unquote.j0]; rw [if_pos trivial, unqQ]
      by_cases h1 : c = 34
      · rw [if_pos h1]; rfl
      · rw [if_neg h1]
    | c :: d :: t, hS, hq =>
      have hb := hS.bt
      by_cases h1 : c = 34
      · refine ev_eq (fun k => sign_Unquote.j0 k s false) ?_ fun k => by
          rw [if_neg (by simp at hq; omega), if_pos (by simp at hq; omega), hb, h1]; rfl
        rw [unqQ, if_pos h1]
        refine ev_to _ (unq_loop s hs _ (d :: t) (Nat.le_refl _) 1 [] hS.next (by simp at hq ⊢; omega)) fun k => ?_
        simp only [sign_Unquote.j0]; rw [if_neg (by simp)]; rfl
      · refine ev_mk 1 fun k => ?_
        rw [if_neg (by simp at hq; omega), if_pos (by simp at hq; omega), hb]
        have : (((c.toNat : Int)) != 34) = true := bne_iff_ne.2 (fun x => h1 ((c34 c).1 x))
        rw [this, unqQ, if_neg h1]; simp only [sign_Unquote.j0]; rw [if_pos trivial]
theorem unq_ref (s : ByteArray) (hs : s.size ≤ 140737488351232) : Ev (fun k => pantryref01_Unquote.f k s) (unqS s.data.toList) := by
  unfold pantryref01_Unquote.f
  refine ev_bind (token_ref s (by omega)) ?_
  unfold unqS
  by_cases ht : tokS s.data.toList = true
  · rw [if_pos ht]
    refine ev_now fun k => ?_
    rw [if_pos ht, mk_eta]
  · rw [if_neg ht]
    have hq : s.size = s.data.toList.length := sz s
    have hS := Sfx.start s
    generalize hl : s.data.toList = l at *
    refine ev_eq _ ?_ fun k => by rw [if_neg ht]
    match l, hS, hq, hl with
    | [], hS, hq, _ =>
      refine ev_mk 1 fun k => ?_
      have hq0 : s.size = 0 := hq
      rw [if_pos (by omega)]; simp only [pantryref01_Unquote.j0]; rw [if_pos trivial]; rfl
    | [c], hS, hq, _ =>
      refine ev_mk 1 fun k => ?_
      rw [if_pos (by simp at hq; omega)]; simp only [pantryref01_Unquote.j0]; rw [if_pos trivial, unqQ]
      by_cases h1 : c = 34
      · rw [if_pos h1]; rfl
      · rw [if_neg h1]
    | c :: d :: t, hS, hq, hl =>
      have hb := hS.bt
      simp at hq
      have hw : wrap64 ((s.size : Int) - 1) = (s.size : Int) - 1 := wrap_id (by omega) (by omega)
      by_cases h1 : c = 34
      · rw [unqQ, if_pos h1]
        obtain ⟨m, x, hm⟩ : ∃ m x, d :: t = m ++ [x] := ⟨(d :: t).dropLast, (d :: t).getLast (by simp), (List.dropLast_concat_getLast (by simp)).symm⟩
        have hml : (m ++ [x]).length = t.length + 1 := by rw [← hm]; simp
        simp at hml
        have hx : bt s ((s.size : Int) - 1) = (x.toNat : Int) := by
          refine bt_of ?_
          rw [hl, hm, show ((s.size : Int) - 1).toNat = m.length + 1 from by omega]
          simp
        by_cases h2 : x = 34
        · refine ev_eq (fun k => pantryref01_Unquote.j0 k s false) ?_ fun k => by
            rw [if_neg (by omega), if_pos (by omega), hb, if_pos ((c34 c).2 h1), hw, if_pos (by omega), if_pos (by omega), hx, h2]; rfl
          have hin : (s.extract 1 ((s.size : Int) - 1).toNat).data.toList = m := by
            rw [Lib.extract_data, hl, hm]; simp
            rw [show s.size - 1 - 1 = m.length from by omega]; simp
          have hsz : (s.extract 1 ((s.size : Int) - 1).toNat).size = m.length := by rw [sz, hin]
          have hS2 := Sfx.start (s.extract 1 ((s.size : Int) - 1).toNat)
          rw [hin] at hS2
          rw [hm, h2, unqT_end _ m (Nat.le_refl _)]
          refine ev_to _ (unq_ref_loop (s.extract 1 ((s.size : Int) - 1).toNat) (by rw [hsz]; omega) _ m (Nat.le_refl _) 0 [] hS2 (by simp; omega)) fun k => ?_
          simp only [pantryref01_Unquote.j0]; rw [if_neg (by simp), hw, if_pos (by omega), if_pos (by omega)]; rfl
        · refine ev_mk 1 fun k => ?_
          have hne : ((x.toNat : Int) != 34) = true := bne_iff_ne.2 (fun y => h2 ((c34 x).1 y))
          rw [if_neg (by omega), if_pos (by omega), hb, if_pos ((c34 c).2 h1), hw, if_pos (by omega), if_pos (by omega), hx, hne, hm, unqT_other _ m (Nat.le_refl _) _ _ h2]
          simp only [pantryref01_Unquote.j0]; rw [if_pos trivial]; rfl
      · refine ev_mk 1 fun k => ?_
        rw [if_neg (by omega), if_pos (by omega), hb, if_neg (fun x => h1 ((c34 c).1 x)), unqQ, if_neg h1]; simp only [pantryref01_Unquote.j0]; rw [if_pos trivial]

end Go.Proofs.YtnbgffndhkgdpaaDoor.Pure
