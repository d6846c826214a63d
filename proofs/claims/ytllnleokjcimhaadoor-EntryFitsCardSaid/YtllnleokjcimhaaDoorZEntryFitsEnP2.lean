import Derived.Test.YtllnleokjcimhaaDoorZEntryFitsEnP1
import Derived.Test.YtllnleokjcimhaaDoorZEntryFitsPure
import Derived.Test.YtllnleokjcimhaaDoorZEntryFitsEnDec
/-
The plain law, part 2: which entries are right, and which a version can have.
-/
namespace Go.Proofs.YtllnleokjcimhaaDoor.Pure
open Go.RowKit Go.Proofs.YtllnleokjcimhaaDoor.P Go.Proofs.YtllnleokjcimhaaDoor.En Go.Proofs.YtllnleokjcimhaaDoorW.PrintWords Go.Proofs.YtllnleokjcimhaaDoorW.PrintLast Go.Proofs.YtllnleokjcimhaaDoorW.PrintMore
set_option linter.unusedVariables false
set_option linter.unusedSimpArgs false
/-! ### names -/
def nameP (s : ByteArray) : Bool := tokS s.data.toList && decide (lowS s.data.toList = s.data.toList) && decide (s.size ≤ 64)
def goodP (l : List ByteArray) : Nat → Nat → Bool
  | 0, _ => true
  | m + 1, j => nameP (rdOf ByteArray.empty l (j : Int)) && (decide (j = 0) || Op.bytesLess (rdOf ByteArray.empty l ((j - 1 : Nat) : Int)).toList (rdOf ByteArray.empty l (j : Int)).toList) && goodP l m (j + 1)
def namesP (l : List ByteArray) : Bool := decide (l.length ≤ 8) && goodP l l.length 0
theorem low_eq (s : ByteArray) : ((⟨(lowS s.data.toList).toArray⟩ : ByteArray).toList = s.toList) = (lowS s.data.toList = s.data.toList) := by rw [tl, tl]
theorem rdOf_size {l : List ByteArray} {B : Nat} (hB : ∀ s ∈ l, s.size ≤ B) (j : Nat) (h : j < l.length) : (rdOf ByteArray.empty l (j : Int)).size ≤ B := by
  unfold rdOf
  rw [Int.toNat_natCast, List.getD_eq_getElem?_getD, List.getElem?_eq_getElem h]
  exact hB _ (List.getElem_mem h)
theorem names_step (tok : Bool) (s : ByteArray) (j : Nat) (x rest : Option Bool) (b : Bool) (hx : x = some b) (lt r : Bool) (hr : rest = some r) (ht : tok = tokS s.data.toList) :
    (if tok = true then (some (⟨(lowS s.data.toList).toArray⟩ : ByteArray)).bind fun t105 => (if t105.toList = s.toList then (if (s.size : Int) > 64 then (some false) else (if (j : Int) > 0 then (if lt = true then rest else some false) else rest)) else (some false)) else some false) =
    some (nameP s && (decide (j = 0) || lt) && r) := by
  subst ht hr
  unfold nameP
  simp only [Option.bind_some, low_eq]
  by_cases h1 : tokS s.data.toList = true
  · rw [if_pos h1, h1]
    by_cases h2 : lowS s.data.toList = s.data.toList
    · rw [if_pos h2]
      by_cases h3 : (s.size : Int) > 64
      · rw [if_pos h3]; simp [show ¬ s.size ≤ 64 from by omega]
      · rw [if_neg h3]
        by_cases h4 : (j : Int) > 0
        · rw [if_pos h4]
          cases lt <;> simp [h2, show s.size ≤ 64 from by omega, show j ≠ 0 from by omega]
        · rw [if_neg h4]
          simp [h2, show s.size ≤ 64 from by omega, show j = 0 from by omega]
    · rw [if_neg h2]; simp [h2]
  · rw [if_neg h1]
    simp [Bool.eq_false_iff.2 h1]
theorem names_loop (l : List ByteArray) (hl : l.length ≤ 1000000) (hB : ∀ s ∈ l, s.size ≤ 1000000) (m : Nat) : ∀ j : Nat, j + m = l.length → Ev (fun k => entry_names.l0 k l l (l.length : Int) (j : Int)) (goodP l m j && decide (l.length ≤ 8)) := by
  induction m with
  | zero =>
    intro j hj
    refine ev_one fun k => ?_
    show entry_names.l0 (k + 1) l l _ _ = _
    rw [entry_names.l0, if_neg (by omega), goodP, Bool.true_and]
    congr 1
    exact decide_eq_decide.2 (by omega)
  | succ m ih =>
    intro j hj
    have hs := rdOf_size hB j (by omega)
    obtain ⟨K1, h1⟩ := token_sign (rdOf ByteArray.empty l (j : Int)) (by omega)
    obtain ⟨K2, h2⟩ := ih (j + 1) (by omega)
    refine ⟨K1 + K2 + 1, fun k hk => ?_⟩
    obtain ⟨k, rfl⟩ : ∃ n, k = n + 1 := ⟨k - 1, by omega⟩
    show entry_names.l0 (k + 1) l l _ _ = _
    have h1 := h1 k (by omega)
    have h2 := h2 k (by omega)
    dsimp only at h1 h2
    rw [entry_names.l0, if_pos (by omega), if_pos (by omega), if_pos (by omega), h1, lower_sign _ (by omega), wrap_id (x := (j : Int) + 1) (by omega) (by omega), show (j : Int) + 1 = ((j + 1 : Nat) : Int) from by omega, h2]
    rw [Option.bind_some]
    by_cases h4 : (j : Int) > 0
    · rw [if_pos h4, wrap_id (x := (j : Int) - 1) (by omega) (by omega), show (j : Int) - 1 = ((j - 1 : Nat) : Int) from by omega, if_pos (show (0 : Int) ≤ ((j - 1 : Nat) : Int) from by omega), if_pos (show ((j - 1 : Nat) : Int) < (l.length : Int) from by omega)]
      have := names_step _ (rdOf ByteArray.empty l (j : Int)) j (some true) _ true rfl (Op.bytesLess (rdOf ByteArray.empty l ((j - 1 : Nat) : Int)).toList (rdOf ByteArray.empty l (j : Int)).toList) (goodP l m (j + 1) && decide (l.length ≤ 8)) rfl rfl
      rw [if_pos h4] at this
      rw [this, goodP]; simp only [Bool.and_assoc]
    · rw [if_neg h4]
      have := names_step _ (rdOf ByteArray.empty l (j : Int)) j (some true) _ true rfl (Op.bytesLess (rdOf ByteArray.empty l ((j - 1 : Nat) : Int)).toList (rdOf ByteArray.empty l (j : Int)).toList) (goodP l m (j + 1) && decide (l.length ≤ 8)) rfl rfl
      rw [if_neg h4] at this
      rw [this, goodP]; simp only [Bool.and_assoc]
theorem names_ev (l : List ByteArray) (hl : l.length ≤ 1000000) (hB : ∀ s ∈ l, s.size ≤ 1000000) : Ev (fun k => entry_names.f k l) (namesP l) :=
  ev_rw (names_loop l hl hB l.length 0 (by omega)) (by unfold namesP; exact Bool.and_comm _ _)
theorem goodP_size (l : List ByteArray) (m : Nat) : ∀ j : Nat, j + m = l.length → goodP l m j = true → ∀ s ∈ l.drop j, s.size ≤ 64 := by
  induction m with
  | zero => intro j hj _ s hs; rw [List.drop_of_length_le (by omega)] at hs; cases hs
  | succ m ih =>
    intro j hj h s hs
    rw [goodP, Bool.and_eq_true, Bool.and_eq_true] at h
    have hlt : j < l.length := by omega
    rw [List.drop_eq_getElem_cons hlt] at hs
    rcases List.mem_cons.1 hs with rfl | hs
    · have h1 := h.1.1
      unfold nameP rdOf at h1
      rw [Int.toNat_natCast, List.getD_eq_getElem?_getD, List.getElem?_eq_getElem hlt] at h1
      simp at h1
      exact h1.2
    · exact ih (j + 1) (by omega) h.2 s hs
theorem namesP_size {l : List ByteArray} (h : namesP l = true) : l.length ≤ 8 ∧ ∀ s ∈ l, s.size ≤ 64 := by
  unfold namesP at h
  rw [Bool.and_eq_true, decide_eq_true_eq] at h
  refine ⟨h.1, fun s hs => goodP_size l l.length 0 (by omega) h.2 s (by simpa using hs)⟩
/-! ### fields -/
def fieldP (p : ByteArray × ByteArray) : Bool := tokS p.1.data.toList && decide (p.1.size ≤ 64) && decide (p.2.size ≤ 1024) && decide (trimB p.2.data.toList = p.2.data.toList) && !(bytesOf p.2).any badI
def fieldsP (l : List (ByteArray × ByteArray)) : Bool := decide (l.length ≤ 64) && l.all fieldP
theorem field_ev (n v : ByteArray) (hn : n.size ≤ 1000000) (hv : v.size ≤ 1000000) : Ev (fun k => field_Field_Right.f k n v) (fieldP (n, v)) := by
  obtain ⟨K, h⟩ := token_sign n (by omega)
  refine ⟨K, fun k hk => ?_⟩
  show field_Field_Right.f k n v = _
  have h : sign_Token.f k n = _ := h k hk
  unfold field_Field_Right.f fieldP
  rw [h, Option.bind_some, trim_sign v (by omega), Option.bind_some]
  by_cases h1 : tokS n.data.toList = true
  · rw [h1, if_neg (by simp)]
    by_cases h2 : 64 < n.size
    · rw [if_pos h2]; simp [show ¬ n.size ≤ 64 from by omega]
    · rw [if_neg h2]
      by_cases h3 : 1024 < v.size
      · rw [if_pos h3]; simp [show ¬ v.size ≤ 1024 from by omega]
      · rw [if_neg h3]
        by_cases h4 : trimB v.data.toList = v.data.toList
        · rw [h4, mk_eta, if_neg (by simp)]; simp [show v.size ≤ 1024 from by omega, show n.size ≤ 64 from by omega, h4]
        · rw [if_pos (fun e => h4 (by have := congrArg (fun t : ByteArray => t.data.toList) e; simpa using this))]
          simp [h4]
  · rw [Bool.eq_false_iff.2 h1]; simp
theorem anyO_ev {α : Type} (p : Nat → α → Option Bool) (q : α → Bool) : ∀ (l : List α), (∀ x ∈ l, Ev (fun k => p k x) (q x)) → Ev (fun k => anyO (p k) l) (l.any q)
  | [], _ => ev_now fun k => rfl
  | x :: l, h => by
    obtain ⟨K1, h1⟩ := h x (List.mem_cons_self ..)
    obtain ⟨K2, h2⟩ := anyO_ev p q l (fun y hy => h y (List.mem_cons_of_mem _ hy))
    refine ⟨K1 + K2, fun k hk => ?_⟩
    show anyO (p k) (x :: l) = _
    have h1 : p k x = _ := h1 k (by omega)
    have h2 : anyO (p k) l = some (l.any q) := h2 k (by omega)
    rw [anyO, h1, Option.bind_some, List.any_cons]
    cases q x
    · rw [if_neg (by simp), h2, Bool.false_or]
    · rw [if_pos rfl, Bool.true_or]
theorem any_not {α : Type} (q : α → Bool) (l : List α) : (!l.any fun x => !q x) = l.all q := by induction l with
  | nil => rfl
  | cons x l ih => rw [List.any_cons, List.all_cons, Bool.not_or, ih, Bool.not_not]
theorem fields_ev (l : List (ByteArray × ByteArray)) (hB : ∀ p ∈ l, p.1.size ≤ 1000000 ∧ p.2.size ≤ 1000000) : Ev (fun k => field_List_Right.f k (flds l)) (fieldsP l) := by
  have hlen : (flds l).length = l.length := by simp [flds]
  unfold fieldsP field_List_Right.f
  rw [hlen]
  by_cases h : l.length ≤ 64
  · have h1 := anyO_ev (fun k (x : S53) => (field_Field_Right.f k x.f0 x.f1).bind fun b => some (!b)) (fun x => !fieldP (x.f0, x.f1)) (flds l) (fun x hx => by
      unfold flds at hx
      obtain ⟨p, hp, rfl⟩ := List.mem_map.1 hx
      have := hB p hp
      exact ev_bind (field_ev p.1 p.2 this.1 this.2) (ev_now fun k => rfl))
    refine ev_rw (ev_eq _ (ev_bind (f := fun _ b => some (!b)) h1 (ev_now fun k => rfl)) fun k => by rw [if_pos h]) ?_
    rw [any_not]
    simp [h, flds, List.all_map, Function.comp_def]
  · refine ev_now fun k => ?_
    rw [if_neg h]; simp [h]
/-! ### entries -/
/-- Sizes that an entry may have here. -/
structure Bnd (x : PE) : Prop where
  key : x.key.size ≤ 70000
  second : x.second.size ≤ 70000
  names : x.names.length ≤ 70000
  name : ∀ s ∈ x.names, s.size ≤ 70000
  fields : x.fields.length ≤ 70000
  field : ∀ p ∈ x.fields, p.1.size ≤ 70000 ∧ p.2.size ≤ 70000
  body : x.body.length ≤ 70000
  bytes : ∀ c ∈ x.body, 0 ≤ c ∧ c < 256
def rightP (x : PE) : Bool := decide (1 ≤ x.key.size ∧ x.key.size ≤ 1200 ∧ x.second.size ≤ 600) && namesP x.names && decide (0 ≤ x.asked ∧ x.asked ≤ 253402300799 ∧ 0 ≤ x.came ∧ x.came ≤ 253402300799 ∧ 200 ≤ x.status ∧ x.status ≤ 599) && fieldsP x.fields && decide (x.body.length ≤ 2048 ∧ 1 ≤ x.gen ∧ x.gen ≤ 253402300799)
theorem right_ev (x : PE) (h : Bnd x) : Ev (fun k => entry_Entry_Right.f k x.key x.second x.names x.asked x.came x.status (flds x.fields) x.body x.gen) (rightP x) := by
  obtain ⟨K1, h1⟩ := names_ev x.names (by have := h.names; omega) (fun s hs => by have := h.name s hs; omega)
  obtain ⟨K2, h2⟩ := fields_ev x.fields (fun p hp => by have := h.field p hp; omega)
  refine ⟨K1 + K2, fun k hk => ?_⟩
  have h1 : entry_names.f k x.names = _ := h1 k (by omega)
  have h2 : field_List_Right.f k (flds x.fields) = _ := h2 k (by omega)
  show entry_Entry_Right.f k _ _ _ _ _ _ _ _ _ = _
  unfold entry_Entry_Right.f entry_timed.f rightP
  rw [h1, h2]
  generalize namesP x.names = a
  generalize fieldsP x.fields = b
  cases a <;> cases b <;> simp only [Option.bind_some, Bool.false_eq_true, if_false, if_true]
  all_goals repeat' split
  all_goals simp_all
  all_goals first
    | omega
    | (have e1 : 1 ≤ x.key.size := by omega
       have e2 : x.key.size ≤ 1200 := by omega
       have e3 : x.second.size ≤ 600 := by omega
       have e4 : x.body.length ≤ 2048 := by omega
       simp only [e1, e2, e3, e4, decide_true, Bool.true_and, Bool.and_true]
       by_cases g1 : x.asked ≤ 253402300799 <;> by_cases g2 : x.came ≤ 253402300799 <;> simp [g1, g2])
def fitsP (x : PE) (v : Int) : Bool := rightP x && decide (1 ≤ v ∧ v ≤ 3) && decide (v = 3 ∨ (x.second.size = 0 ∧ x.names.length = 0)) && decide (v ≠ 1 ∨ x.gen = 1)
theorem size_nil (s : ByteArray) : (s.toList = ([] : List UInt8)) = (s.size = 0) := by
  rw [tl, sz, List.length_eq_zero_iff]
theorem fits_ev (x : PE) (v : Int) (h : Bnd x) : Ev (fun k => entry_Entry_Fits.f k x.key x.second x.names x.asked x.came x.status (flds x.fields) x.body x.gen v) (fitsP x v) := by
  obtain ⟨K, hK⟩ := right_ev x h
  refine ⟨K + 1, fun k hk => ?_⟩
  obtain ⟨k, rfl⟩ : ∃ n, k = n + 1 := ⟨k - 1, by omega⟩
  have hK : entry_Entry_Right.f k x.key x.second x.names x.asked x.came x.status (flds x.fields) x.body x.gen = _ := hK k (by omega)
  show entry_Entry_Fits.f (k + 1) _ _ _ _ _ _ _ _ _ _ = _
  unfold entry_Entry_Fits.f fitsP
  simp only [size_nil]
  rw [entry_Entry_Fits.j0, entry_Entry_Fits.j0, hK, Option.bind_some]
  generalize rightP x = b
  cases b
  · simp only [Bool.false_eq_true, if_false, Bool.false_and]
    repeat' split
    all_goals rfl
  · by_cases c1 : x.second.size = 0
    · rw [if_pos c1]
      by_cases c2 : v = 1
      · subst c2; simp [c1]; cases h : x.names <;> (try simp [h]) <;> (try rfl) <;> (try omega)
      · by_cases c3 : v = 2
        · subst c3; simp [c1]; cases h : x.names <;> (try simp [h]) <;> (try rfl) <;> (try omega)
        · by_cases c4 : v = 3
          · subst c4; simp
          · simp [c2, c3, c4]; omega
    · rw [if_neg c1]
      by_cases c2 : v = 1
      · subst c2; simp [c1]
      · by_cases c3 : v = 2
        · subst c3; simp [c1]
        · by_cases c4 : v = 3
          · subst c4; simp
          · simp [c2, c3, c4]; omega
end Go.Proofs.YtllnleokjcimhaaDoor.Pure
