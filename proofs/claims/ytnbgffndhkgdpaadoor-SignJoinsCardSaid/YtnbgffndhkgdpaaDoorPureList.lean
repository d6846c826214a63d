import Derived.Test.YtnbgffndhkgdpaaDoorPureTrim
import Derived.Test.YtnbgffndhkgdpaaDoorPx1
import Derived.Test.YtnbgffndhkgdpaaDoorPx4
import Derived.Test.YtnbgffndhkgdpaaDoorPx1
namespace Go.Proofs.YtnbgffndhkgdpaaDoor.Pure
open Go.RowKit Go.Proofs.YtnbgffndhkgdpaaDoor.P Go.Proofs.YtnbgffndhkgdpaaDoorW.PrintWords Go.Proofs.YtnbgffndhkgdpaaDoorW.PrintLast Go.Proofs.YtnbgffndhkgdpaaDoorW.PrintMore
set_option linter.unusedVariables false
set_option linter.unusedSimpArgs false

/-! ### a list's elements: a machine that knows whether it stands in quotes, and behind a backslash -/
def nq (q sk : Bool) (c : UInt8) : Bool := if sk then q else if q && c == 92 then q else if c == 34 then !q else q
def ns (q sk : Bool) (c : UInt8) : Bool := if sk then false else q && c == 92
def segs : Bool → Bool → List UInt8 → List UInt8 → List (List UInt8)
  | _, _, cur, [] => [cur]
  | q, sk, cur, c :: l => if c = 44 ∧ q = false then cur :: segs false false [] l else segs (nq q sk c) (ns q sk c) (cur ++ [c]) l
def mkb (l : List UInt8) : ByteArray := ⟨l.toArray⟩
def keep (l : List (List UInt8)) : List ByteArray := ((l.map trimB).filter fun e => !e.isEmpty).map mkb
/-- What List tells. -/
def elems (l : List UInt8) : List ByteArray := keep (segs false false [] l)
def endM : Bool → Bool → List UInt8 → Nat
  | _, _, [] => 0
  | q, sk, c :: l => if c = 44 ∧ q = false then 0 else 1 + endM (nq q sk c) (ns q sk c) l
theorem endM_le (l : List UInt8) : ∀ q sk, endM q sk l ≤ l.length := by
  induction l with
  | nil => intro q sk; simp [endM]
  | cons c l ih =>
    intro q sk; rw [endM]; split
    · omega
    · have := ih (nq q sk c) (ns q sk c); simp; omega
theorem keep_cons (a : List UInt8) (l : List (List UInt8)) : keep (a :: l) = if (trimB a).isEmpty then keep l else mkb (trimB a) :: keep l := by
  unfold keep; simp only [List.map_cons, List.filter_cons]
  by_cases h : (trimB a).isEmpty = true <;> simp [h]
theorem keep_app (l m : List (List UInt8)) : keep (l ++ m) = keep l ++ keep m := by unfold keep; simp
theorem keep_nil : keep [] = [] := rfl
theorem segs_split (l : List UInt8) : ∀ q sk cur, segs q sk cur l = (cur ++ l.take (endM q sk l)) :: (if endM q sk l < l.length then segs false false [] (l.drop (endM q sk l + 1)) else []) := by
  induction l with
  | nil => intro q sk cur; simp [segs, endM]
  | cons c l ih =>
    intro q sk cur
    rw [segs, endM]
    by_cases h : c = 44 ∧ q = false
    · rw [if_pos h, if_pos h]; simp
    · rw [if_neg h, if_neg h, ih]
      rw [Nat.add_comm 1 (endM _ _ l)]
      simp
theorem segs_plain (l m : List UInt8) (h : ∀ c ∈ l, c ≠ 34) : ∀ cur, segs false false cur (l ++ 44 :: m) = segs false false cur l ++ segs false false [] m := by
  induction l with
  | nil => intro cur; simp [segs]
  | cons c l ih =>
    intro cur
    have hc : c ≠ 34 := h c (by simp)
    have hq : nq false false c = false := by simp [nq, hc]
    have hs : ns false false c = false := by simp [ns]
    rw [List.cons_append, segs, segs, hq, hs]
    by_cases h44 : c = 44
    · rw [if_pos ⟨h44, rfl⟩, if_pos ⟨h44, rfl⟩, ih (fun x hx => h x (by simp [hx]))]; rfl
    · rw [if_neg (fun x => h44 x.1), if_neg (fun x => h44 x.1), ih (fun x hx => h x (by simp [hx]))]
theorem segs_one (l : List UInt8) (h : ∀ c ∈ l, c ≠ 34 ∧ c ≠ 44) : ∀ cur, segs false false cur l = [cur ++ l] := by
  induction l with
  | nil => intro cur; simp [segs]
  | cons c l ih =>
    intro cur
    have hc := h c (by simp)
    rw [segs, if_neg (fun x => hc.2 x.1), show nq false false c = false by simp [nq, hc.1], show ns false false c = false by simp [ns], ih (fun x hx => h x (by simp [hx]))]
    simp
theorem elems_two (a b : List UInt8) (h : ∀ c ∈ a, c ≠ 34) : elems (a ++ 44 :: b) = elems a ++ elems b := by
  unfold elems; rw [segs_plain a b h, keep_app]

theorem b_eq (c : UInt8) (n : Nat) (hn : n < 256) : (c.toNat : Int) = (n : Int) ↔ c = UInt8.ofNat n := by
  constructor
  · intro h; apply UInt8.toNat_inj.1; rw [UInt8.toNat_ofNat']; omega
  · rintro rfl; rw [UInt8.toNat_ofNat']; omega
theorem c44 (c : UInt8) : (c.toNat : Int) = 44 ↔ c = 44 := b_eq c 44 (by omega)
theorem e34 (c : UInt8) : (c.toNat : Int) = 34 ↔ c = 34 := b_eq c 34 (by omega)
theorem e92 (c : UInt8) : (c.toNat : Int) = 92 ↔ c = 92 := b_eq c 92 (by omega)
theorem e92b (c : UInt8) : ((c.toNat : Int) == 92) = (c == 92) := by rw [Bool.eq_iff_iff]; simp [e92]
theorem e34b (c : UInt8) : ((c.toNat : Int) == 34) = (c == 34) := by rw [Bool.eq_iff_iff]; simp [e34]

theorem end_loop (s : ByteArray) (hs : s.size ≤ 140737488351232) (n : Nat) : ∀ l, l.length ≤ n → ∀ i q, Sfx s i l → Ev (fun k => sign_end.l0 k s q i) (i + endM q false l) := by
  induction n with
  | zero =>
    intro l hl i q h
    have : l = [] := List.length_eq_zero_iff.1 (by omega)
    subst this
    refine ev_one fun k => ?_
    simp only [sign_end.l0]; rw [if_neg h.stop, endM]; have := h.last; congr 1; omega
  | succ n ih =>
    intro l hl i q h
    match l, h, hl with
    | [], h, _ =>
      refine ev_one fun k => ?_
      simp only [sign_end.l0]; rw [if_neg h.stop, endM]; have := h.last; congr 1; omega
    | c :: l, h, hl =>
      simp at hl
      by_cases h1 : c = 34
      · refine ev_to _ (ev_rw (ih l hl (i + 1) (!q) h.next) ?_) fun k => ?_
        · rw [endM, if_neg (by subst h1; intro x; exact absurd x.1 (by decide))]
          have e1 : nq q false c = !q := by subst h1; cases q <;> rfl
          have e2 : ns q false c = false := by subst h1; cases q <;> rfl
          rw [e1, e2]; omega
        · simp only [sign_end.l0]; rw [if_pos h.lt, if_pos h.ge, h.bt, if_pos ((e34 c).2 h1), h.wrap (by omega)]
      · cases q with
        | true =>
          refine ev_to (fun k => sign_end.j1 k s true i (c == 92)) ?_ fun k => by
            simp only [sign_end.l0]; rw [if_pos h.lt, if_pos h.ge, h.bt, if_neg (fun x => h1 ((e34 c).1 x)), if_pos trivial, e92b]
          by_cases h2 : c = 92
          · have e1 : nq true false c = true := by subst h2; rfl
            have e2 : ns true false c = true := by subst h2; rfl
            have e0 : endM true false (c :: l) = 1 + endM true true l := by rw [endM, if_neg (by simp), e1, e2]
            rw [e0]
            match l, h, hl with
            | [], h, _ =>
              refine ev_mk 2 fun k => ?_
              have hl2 := h.next.last
              have hg := h.ge
              simp only [sign_end.j1]; rw [h2, if_pos (by rfl), h.wrap (by omega), wrap_id (by omega) (by omega)]
              simp only [sign_end.l0]; rw [if_neg (by omega), endM]; congr 1; omega
            | d :: l, h, hl =>
              simp at hl
              refine ev_to _ (ev_rw (ih l (by omega) (i + 1 + 1) true h.next.next) ?_) fun k => ?_
              · rw [endM, if_neg (by simp)]
                have e3 : nq true true d = true := rfl
                have e4 : ns true true d = false := rfl
                rw [e3, e4]; omega
              · simp only [sign_end.j1]; rw [h2, if_pos (by rfl), h.wrap (by omega), h.next.wrap (by omega)]
          · refine ev_to _ (ev_rw (ih l hl (i + 1) true h.next) ?_) fun k => ?_
            · rw [endM, if_neg (by simp)]
              have e1 : nq true false c = true := by simp [nq, h1, h2]
              have e2 : ns true false c = false := by simp [ns, h2]
              rw [e1, e2]; omega
            · simp only [sign_end.j1]; rw [if_neg (by simpa using h2), if_pos trivial, h.wrap (by omega)]
        | false =>
          refine ev_to (fun k => sign_end.j1 k s false i false) ?_ fun k => by
            simp only [sign_end.l0]; rw [if_pos h.lt, if_pos h.ge, h.bt, if_neg (fun x => h1 ((e34 c).1 x)), if_neg (by simp)]
          by_cases h2 : c = 44
          · refine ev_one fun k => ?_
            simp only [sign_end.j1]; rw [if_neg (by simp), if_neg (by simp), if_pos h.ge, if_pos h.lt, h.bt, if_pos ((c44 c).2 h2), endM, if_pos ⟨h2, rfl⟩]; simp
          · refine ev_to _ (ev_rw (ih l hl (i + 1) false h.next) ?_) fun k => ?_
            · rw [endM, if_neg (fun x => h2 x.1)]
              have e1 : nq false false c = false := by simp [nq, h1]
              have e2 : ns false false c = false := by simp [ns]
              rw [e1, e2]; omega
            · simp only [sign_end.j1]; rw [if_neg (by simp), if_neg (by simp), if_pos h.ge, if_pos h.lt, h.bt, if_neg (fun x => h2 ((c44 c).1 x)), h.wrap (by omega)]
theorem end_sign (s : ByteArray) (hs : s.size ≤ 140737488351232) : Ev (fun k => sign_end.f k s) (endM false false s.data.toList : Int) :=
  ev_rw (end_loop s hs _ _ (Nat.le_refl _) 0 false (Sfx.start s)) (by omega)
theorem list_loop (n : Nat) : ∀ (s : ByteArray), s.data.toList.length ≤ n → s.size ≤ 140737488351232 → ∀ out : List ByteArray, out.length + s.size < 8796093022208 → Ev (fun k => sign_List.l0 k s out) (out ++ elems s.data.toList) := by
  induction n with
  | zero =>
    intro s hl hs out ho
    have hnil : s.data.toList = [] := List.length_eq_zero_iff.1 (by omega)
    refine ev_one fun k => ?_
    simp only [sign_List.l0]; rw [tl, if_pos hnil, hnil]; simp [elems, segs, keep, trimB, trimL, trimR]
  | succ n ih =>
    intro s hl hs out ho
    by_cases hnil : s.data.toList = []
    · refine ev_one fun k => ?_
      simp only [sign_List.l0]; rw [tl, if_pos hnil, hnil]; simp [elems, segs, keep, trimB, trimL, trimR]
    have hq := sz s
    have hpos : 0 < s.data.toList.length := List.length_pos_iff.2 hnil
    have hle := endM_le s.data.toList false false
    have hsp := segs_split s.data.toList false false []
    have hend := end_sign s hs
    generalize hE : endM false false s.data.toList = E at *
    have hmn : mn (wrap64 ((E : Int) + 1)) (s.size : Int) = ((min (E + 1) s.size : Nat) : Int) := by
      rw [wrap_id (by omega) (by omega)]; unfold mn; split <;> omega
    have hcut : (s.extract 0 (E : Int).toNat).data.toList = s.data.toList.take E := by rw [Lib.extract_data]; simp
    have hcs : (s.extract 0 (E : Int).toNat).size ≤ 4611686018427387904 := by rw [sz, hcut, List.length_take]; omega
    have htr := trim_sign _ hcs
    rw [hcut] at htr
    have hrest : (s.extract ((min (E + 1) s.size : Nat) : Int).toNat s.size).data.toList = s.data.toList.drop (E + 1) := by
      rw [Lib.extract_data, Int.toNat_natCast]
      by_cases hlt : E + 1 ≤ s.size
      · rw [show min (E + 1) s.size = E + 1 from by omega, List.take_of_length_le (by rw [List.length_drop]; omega)]
      · rw [show min (E + 1) s.size = s.size from by omega, List.drop_of_length_le (by omega), List.drop_of_length_le (by omega)]; simp
    have hrs : (s.extract ((min (E + 1) s.size : Nat) : Int).toNat s.size).size = s.size - (E + 1) := by rw [sz, hrest, List.length_drop, hq]
    have hel : elems s.data.toList = (if (trimB (s.data.toList.take E)).isEmpty then [] else [mkb (trimB (s.data.toList.take E))]) ++ elems (s.data.toList.drop (E + 1)) := by
      unfold elems; rw [hsp, keep_cons, List.nil_append]
      by_cases hlt : E < s.data.toList.length
      · rw [if_pos hlt]; split <;> simp
      · rw [if_neg hlt, List.drop_of_length_le (by omega)]
        have : keep (segs false false [] []) = [] := rfl
        rw [this]; split <;> simp [keep_nil]
    have hT : ∀ o : List ByteArray, o.length ≤ out.length + 1 → Ev (fun k => sign_List.l0 k (s.extract ((min (E + 1) s.size : Nat) : Int).toNat s.size) o) (o ++ elems (s.data.toList.drop (E + 1))) := fun o ho2 => by
      have := ih (s.extract ((min (E + 1) s.size : Nat) : Int).toNat s.size) (by rw [hrest, List.length_drop]; omega) (by rw [hrs]; omega) o (by rw [hrs]; omega)
      rw [hrest] at this; exact this
    refine ev_to (fun k => (sign_end.f k s).bind fun t101 => (if 0 ≤ t101 then (if t101 ≤ (s.size : Int) then ((sign_Trim.f (s.extract 0 (t101 : Int).toNat)).bind fun t102 => (if t102.toList = ([] : List UInt8) then (if 0 ≤ (mn (wrap64 (t101 + 1)) (s.size : Int)) then (if (mn (wrap64 (t101 + 1)) (s.size : Int)) ≤ (s.size : Int) then (sign_List.l0 k (s.extract ((mn (wrap64 (t101 + 1)) (s.size : Int)) : Int).toNat s.size) out) else (none)) else (none)) else (if out.length < 8796093022208 then (if 0 ≤ (mn (wrap64 (t101 + 1)) (s.size : Int)) then (if (mn (wrap64 (t101 + 1)) (s.size : Int)) ≤ (s.size : Int) then (sign_List.l0 k (s.extract ((mn (wrap64 (t101 + 1)) (s.size : Int)) : Int).toNat s.size) (out ++ [t102])) else (none)) else (none)) else (none)))) else (none)) else (none))) ?_ fun k => by
        simp only [sign_List.l0]; rw [tl, if_neg hnil]
    refine ev_bind hend ?_
    rw [hel]
    by_cases he : (trimB (s.data.toList.take E)).isEmpty = true
    · refine ev_eq _ (ev_rw (hT out (by omega)) (by rw [if_pos he]; rfl)) fun k => ?_
      rw [if_pos (by omega), if_pos (by omega), bind_some htr, hmn, if_pos (by rw [tl, mk_data]; exact List.isEmpty_iff.1 he), if_pos (by omega), if_pos (by omega)]
    · refine ev_eq _ (ev_rw (hT (out ++ [mkb (trimB (s.data.toList.take E))]) (by simp)) (by rw [if_neg he]; simp)) fun k => ?_
      rw [if_pos (by omega), if_pos (by omega), bind_some htr, hmn, if_neg (by rw [tl, mk_data]; intro hx; exact he (by rw [hx]; rfl)), if_pos (by omega), if_pos (by omega), if_pos (by omega)]; rfl
theorem list_sign (s : ByteArray) (hs : s.size ≤ 8796093000000) : Ev (fun k => sign_List.f k s) (elems s.data.toList) :=
  ev_rw (list_loop _ s (Nat.le_refl _) (by omega) [] (by simp; omega)) (by simp)

/-! ### the reference -/
def qf : Bool → Bool → List UInt8 → List Bool
  | _, _, [] => []
  | q, sk, c :: l => (q || c == 34) :: qf (nq q sk c) (ns q sk c) l
theorem quoted_loop (s : ByteArray) (hs : s.size ≤ 140737488351232) (l : List UInt8) : ∀ i (fs : List Bool) q sk, Sfx s i l → fs.length = i.toNat → Ev (fun k => pantryref01_quoted.l0 k s (fs ++ List.replicate l.length false) q sk i) (fs ++ qf q sk l) := by
  induction l with
  | nil =>
    intro i fs q sk h hf
    refine ev_one fun k => ?_
    simp only [pantryref01_quoted.l0]; rw [if_neg h.stop]; simp [qf]
  | cons c l ih =>
    intro i fs q sk h hf
    have hg := h.ge
    have hlen : i < ((fs ++ List.replicate (c :: l).length false).length : Int) := by simp; omega
    have hset : ∀ b, (fs ++ List.replicate (c :: l).length false).set i.toNat b = (fs ++ [b]) ++ List.replicate l.length false := by
      intro b
      rw [← hf, List.set_append_right _ _ (Nat.le_refl _)]; simp [List.replicate_succ]
    have hI := ih (i + 1) (fs ++ [q || c == 34]) (nq q sk c) (ns q sk c) h.next (by simp; omega)
    refine ev_to (fun k => pantryref01_quoted.j1 k s ((fs ++ [q || c == 34]) ++ List.replicate l.length false) q sk i) ?_ fun k => ?_
    · refine ev_rw ?_ (show (fs ++ [q || c == 34]) ++ qf (nq q sk c) (ns q sk c) l = fs ++ qf q sk (c :: l) by simp [qf])
      cases sk with
      | true =>
        refine ev_to _ hI fun k => ?_
        simp only [pantryref01_quoted.j1]; rw [if_pos trivial, h.wrap (by omega)]; rfl
      | false =>
        cases q with
        | true =>
          refine ev_to (fun k => pantryref01_quoted.j2 k s ((fs ++ [true || c == 34]) ++ List.replicate l.length false) true false i (c == 92)) ?_ fun k => by
            simp only [pantryref01_quoted.j1]; rw [if_neg (by simp), if_pos trivial, if_pos h.ge, if_pos h.lt, h.bt, e92b]
          by_cases h2 : c = 92
          · refine ev_to _ hI fun k => ?_
            simp only [pantryref01_quoted.j2]; rw [h2, if_pos (by rfl), h.wrap (by omega)]; rfl
          · refine ev_to _ hI fun k => ?_
            simp only [pantryref01_quoted.j2]; rw [if_neg (by simpa using h2), if_pos h.ge, if_pos h.lt, h.bt, h.wrap (by omega)]
            by_cases h1 : c = 34
            · rw [if_pos ((e34 c).2 h1), h1]; rfl
            · rw [if_neg (fun x => h1 ((e34 c).1 x)), show nq true false c = true by simp [nq, h1, h2], show ns true false c = false by simp [ns, h2]]
        | false =>
          refine ev_to (fun k => pantryref01_quoted.j2 k s ((fs ++ [false || c == 34]) ++ List.replicate l.length false) false false i false) ?_ fun k => by
            simp only [pantryref01_quoted.j1]; rw [if_neg (by simp), if_neg (by simp)]
          refine ev_to _ hI fun k => ?_
          simp only [pantryref01_quoted.j2]; rw [if_neg (by simp), if_pos h.ge, if_pos h.lt, h.bt, h.wrap (by omega)]
          by_cases h1 : c = 34
          · rw [if_pos ((e34 c).2 h1), h1]; rfl
          · rw [if_neg (fun x => h1 ((e34 c).1 x)), show nq false false c = false by simp [nq, h1], show ns false false c = false by simp [ns]]
    · simp only [pantryref01_quoted.l0]; rw [if_pos h.lt, if_pos h.ge, if_pos hlen, hset, hset, h.bt, e34b]
      cases q with
      | true => rw [if_pos rfl]; rfl
      | false => rw [if_neg (by simp), if_pos h.ge, if_pos hlen]; rfl
theorem quoted_ref (s : ByteArray) (hs : s.size ≤ 140737488351232) : Ev (fun k => pantryref01_quoted.f k s) (qf false false s.data.toList) := by
  unfold pantryref01_quoted.f
  refine ev_eq _ (quoted_loop s hs _ 0 [] false false (Sfx.start s) rfl) fun k => ?_
  rw [if_pos (by omega), if_pos (by omega), List.nil_append, ← sz]; rfl
theorem qf_length (l : List UInt8) : ∀ q sk, (qf q sk l).length = l.length := by
  induction l with
  | nil => intro q sk; rfl
  | cons c l ih => intro q sk; simp [qf, ih]
theorem ref_list_loop (s : ByteArray) (hs : s.size ≤ 8796093000000) (F : List Bool) (hF : F.length = s.size) (l : List UInt8) : ∀ (p m : Nat) (cur : List UInt8) q sk (out : List ByteArray), Sfx s ((p + m : Nat) : Int) l → (s.data.toList.drop p).take m = cur → F.drop (p + m) = qf q sk l → cur.length = m → out.length ≤ p + m →
    Ev (fun k => pantryref01_List.l0 k s F out (p : Int) ((p + m : Nat) : Int)) (out ++ keep (segs q sk cur l)) := by
  have fin : ∀ (p m : Nat) (cur : List UInt8) (out : List ByteArray), p + m ≤ s.size → (s.data.toList.drop p).take m = cur → out.length ≤ p + m → ∀ (R : List ByteArray),
      (∀ o : List ByteArray, o.length ≤ out.length + 1 → Ev (fun k => pantryref01_List.l0 k s F o ((p + m + 1 : Nat) : Int) ((p + m + 1 : Nat) : Int)) (o ++ R)) →
      Ev (fun k => pantryref01_List.j1 k s F out (p : Int) ((p + m : Nat) : Int) false) (out ++ ((if (trimB cur).isEmpty then [] else [mkb (trimB cur)]) ++ R)) := by
    intro p m cur out hle hcur ho R hR
    have hcut : (s.extract ((p : Nat) : Int).toNat ((p + m : Nat) : Int).toNat).data.toList = cur := by
      rw [Lib.extract_data, Int.toNat_natCast, Int.toNat_natCast, ← hcur, Nat.add_sub_cancel_left]
    have htr := trim_ref (s.extract ((p : Nat) : Int).toNat ((p + m : Nat) : Int).toNat) (by rw [sz, hcut, ← hcur, List.length_take, List.length_drop, ← sz]; omega)
    rw [hcut] at htr
    have hw : wrap64 (((p + m : Nat) : Int) + 1) = ((p + m + 1 : Nat) : Int) := by rw [wrap_id (by omega) (by omega)]; omega
    refine ev_to (fun k => (pantryref01_Trim.f k (s.extract ((p : Nat) : Int).toNat ((p + m : Nat) : Int).toNat)).bind fun t139 => (if t139.toList = ([] : List UInt8) then (pantryref01_List.l0 k s F out ((p + m + 1 : Nat) : Int) ((p + m + 1 : Nat) : Int)) else (if out.length < 8796093022208 then (pantryref01_List.l0 k s F (out ++ [t139]) ((p + m + 1 : Nat) : Int) ((p + m + 1 : Nat) : Int)) else (none)))) ?_ fun k => by
        simp only [pantryref01_List.j1]; rw [if_neg (by simp), if_pos (by omega), if_pos (by omega), if_pos (by omega), hw]
    refine ev_bind htr ?_
    by_cases he : (trimB cur).isEmpty = true
    · refine ev_eq _ (ev_rw (hR out (by omega)) (by rw [if_pos he]; rfl)) fun k => ?_
      rw [if_pos (by rw [tl, mk_data]; exact List.isEmpty_iff.1 he)]
    · refine ev_eq _ (ev_rw (hR (out ++ [mkb (trimB cur)]) (by simp)) (by rw [if_neg he]; simp)) fun k => ?_
      rw [if_neg (by rw [tl, mk_data]; intro hx; exact he (by rw [hx]; rfl)), if_pos (by omega)]; rfl
  induction l with
  | nil =>
    intro p m cur q sk out h hcur hFd hm ho
    have hlast := h.last
    have := fin p m cur out (by omega) hcur ho [] (fun o _ => by
      refine ev_one fun k => ?_
      simp only [pantryref01_List.l0]; rw [if_neg (by omega)]; simp)
    refine ev_to _ (ev_rw this ?_) fun k => ?_
    · rw [segs, keep_cons, keep_nil]; split <;> simp
    · simp only [pantryref01_List.l0]; rw [if_pos (by omega), if_neg h.stop]
  | cons c l ih =>
    intro p m cur q sk out h hcur hFd hm ho
    have hlt := h.lt
    have hw : wrap64 (((p + m : Nat) : Int) + 1) = ((p + m + 1 : Nat) : Int) := by rw [wrap_id (by omega) (by omega)]; omega
    have hFi : rdOf false F ((p + m : Nat) : Int) = (q || c == 34) := by
      have := congrArg (·[0]?) hFd
      simp [List.getElem?_drop, qf] at this
      unfold rdOf
      rw [Int.toNat_natCast, List.getD_eq_getElem?_getD, this]; rfl
    have hFn : F.drop (p + m + 1) = qf (nq q sk c) (ns q sk c) l := by
      have := congrArg List.tail hFd
      rw [List.tail_drop] at this
      simpa [qf] using this
    have hnext : Sfx s ((p + m + 1 : Nat) : Int) l := by
      have := h.next
      rw [show ((p + m : Nat) : Int) + 1 = ((p + m + 1 : Nat) : Int) by omega] at this
      exact this
    by_cases hsplit : c = 44 ∧ q = false
    · have hI := fun o (ho2 : o.length ≤ out.length + 1) => ih (p + m + 1) 0 [] false false o hnext (by simp) (by rw [Nat.add_zero, hFn, hsplit.1, hsplit.2]; cases sk <;> rfl) rfl (by omega)
      have := fin p m cur out (by omega) hcur ho (keep (segs false false [] l)) (fun o ho2 => by simpa using hI o ho2)
      refine ev_to _ (ev_rw this ?_) fun k => ?_
      · rw [segs, if_pos hsplit, keep_cons]; split <;> simp
      · simp only [pantryref01_List.l0]; rw [if_pos (by omega), if_pos h.lt, if_pos h.ge, h.bt, if_pos ((c44 c).2 hsplit.1), if_pos (by rw [hF]; exact h.lt), hFi, hsplit.1, hsplit.2]; rfl
    · have hI := ih p (m + 1) (cur ++ [c]) (nq q sk c) (ns q sk c) out hnext (by
          have hat := h.at_
          rw [Int.toNat_natCast] at hat
          rw [List.take_add_one, hcur, List.getElem?_drop, hat]; rfl) hFn (by simp [hm]) (by omega)
      refine ev_to (fun k => pantryref01_List.j1 k s F out (p : Int) ((p + m : Nat) : Int) true) ?_ fun k => ?_
      · refine ev_to _ (ev_rw hI (by rw [segs, if_neg hsplit])) fun k => ?_
        simp only [pantryref01_List.j1]; rw [if_pos trivial, hw]; rfl
      · simp only [pantryref01_List.l0]; rw [if_pos (by omega), if_pos h.lt, if_pos h.ge, h.bt]
        by_cases h44 : c = 44
        · have hq : q = true := by cases q with
            | true => rfl
            | false => exact absurd ⟨h44, rfl⟩ hsplit
          rw [if_pos ((c44 c).2 h44), if_pos (by rw [hF]; exact h.lt), hFi, hq]; rfl
        · rw [if_neg (fun x => h44 ((c44 c).1 x))]
theorem list_ref (s : ByteArray) (hs : s.size ≤ 8796093000000) : Ev (fun k => pantryref01_List.f k s) (elems s.data.toList) := by
  unfold pantryref01_List.f
  refine ev_bind (quoted_ref s (by omega)) ?_
  exact ev_rw (ref_list_loop s hs _ (by rw [qf_length, sz]) s.data.toList 0 0 [] false false [] (Sfx.start s) (by simp) (by simp) rfl (by simp)) (by simp [elems])

/-! ### two lists of texts -/
theorem same_loop (a b : List ByteArray) (hl : a.length = b.length) (hb : a.length ≤ 4611686018427387904) (n : Nat) : ∀ i : Nat, i + n = a.length → a.drop i = b.drop i → Ev (fun k => pantrylaw01_same.l0 k b a (a.length : Int) (i : Int)) true := by
  induction n with
  | zero =>
    intro i hi he
    refine ev_one fun k => ?_
    simp only [pantrylaw01_same.l0]; rw [if_neg (by omega)]
  | succ n ih =>
    intro i hi he
    have hw : wrap64 ((i : Int) + 1) = ((i + 1 : Nat) : Int) := by rw [wrap_id (by omega) (by omega)]; omega
    have e0 : rdOf ByteArray.empty a (i : Int) = rdOf ByteArray.empty b (i : Int) := by
      unfold rdOf
      rw [Int.toNat_natCast, List.getD_eq_getElem?_getD, List.getD_eq_getElem?_getD]
      have := congrArg (·[0]?) he
      simp only [List.getElem?_drop, Nat.add_zero] at this
      rw [this]
    refine ev_to _ (ih (i + 1) (by omega) (by have := congrArg List.tail he; rwa [List.tail_drop, List.tail_drop] at this)) fun k => ?_
    simp only [pantrylaw01_same.l0]; rw [if_pos (by omega), if_pos (by omega), if_pos (by omega), if_pos (by omega), e0, if_pos rfl, hw]
theorem same_refl (a : List ByteArray) (hb : a.length ≤ 4611686018427387904) : Ev (fun k => pantrylaw01_same.f k a a) true := by
  unfold pantrylaw01_same.f
  refine ev_eq _ (same_loop a a rfl hb a.length 0 (by omega) rfl) fun k => ?_
  rw [if_pos rfl]; rfl
theorem keep_length (l : List (List UInt8)) : (keep l).length ≤ l.length := by
  unfold keep; rw [List.length_map]
  exact Nat.le_trans (List.length_filter_le _ _) (by simp)
theorem segs_length (l : List UInt8) : ∀ q sk cur, (segs q sk cur l).length ≤ l.length + 1 := by
  induction l with
  | nil => intro q sk cur; simp [segs]
  | cons c l ih =>
    intro q sk cur; rw [segs]
    split
    · have := ih false false []; simp; omega
    · have := ih (nq q sk c) (ns q sk c) (cur ++ [c]); simp; omega
theorem elems_length (l : List UInt8) : (elems l).length ≤ l.length + 1 := Nat.le_trans (keep_length _) (segs_length _ _ _ _)

end Go.Proofs.YtnbgffndhkgdpaaDoor.Pure
