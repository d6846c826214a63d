import Derived.Test.YtllnleokjcimhaaDoorZEntryFitsEnP4
/-
The plain law, part 5: entries that are the same, small ones, records that are spoilt.
-/
namespace Go.Proofs.YtllnleokjcimhaaDoor.Pure
open Go.RowKit Go.Proofs.YtllnleokjcimhaaDoor.P Go.Proofs.YtllnleokjcimhaaDoor.En Go.Proofs.YtllnleokjcimhaaDoorW.PrintWords Go.Proofs.YtllnleokjcimhaaDoorW.PrintLast Go.Proofs.YtllnleokjcimhaaDoorW.PrintMore
set_option linter.unusedVariables false
set_option linter.unusedSimpArgs false
/-! ### the same -/
theorem tl_eq (s t : ByteArray) : (s.toList = t.toList) = (s = t) := by
  rw [tl, tl]
  exact propext ⟨fun h => ba_ext h, fun h => by rw [h]⟩
theorem tl_beq (s t : ByteArray) : (s.toList == t.toList) = decide (s = t) := by
  by_cases h : s = t
  · rw [h]; simp
  · rw [decide_eq_false h]
    have : ¬ s.toList = t.toList := by rw [tl_eq]; exact h
    simpa using this
theorem sset_ev (l m : List ByteArray) (hl : l.length ≤ 1000000) : Ev (fun k => slices_Equal_string_string.f k l m) (decide (l = m)) := by
  have loop : ∀ n j : Nat, j + n = l.length → l.length = m.length → Ev (fun k => slices_Equal_string_string.l0 k l m (l.length : Int) (j : Int)) (decide (l.drop j = m.drop j)) := by
    intro n
    induction n with
    | zero =>
      intro j hj hm
      refine ev_one fun k => ?_
      show slices_Equal_string_string.l0 (k + 1) l m _ _ = _
      rw [slices_Equal_string_string.l0, if_neg (by omega), List.drop_of_length_le (by omega), List.drop_of_length_le (by omega)]; rfl
    | succ n ih =>
      intro j hj hm
      have h1 : j < l.length := by omega
      have h2 : j < m.length := by omega
      have e1 : rdOf ByteArray.empty l (j : Int) = l[j] := by unfold rdOf; rw [Int.toNat_natCast, List.getD_eq_getElem?_getD, List.getElem?_eq_getElem h1]; rfl
      have e2 : rdOf ByteArray.empty m (j : Int) = m[j] := by unfold rdOf; rw [Int.toNat_natCast, List.getD_eq_getElem?_getD, List.getElem?_eq_getElem h2]; rfl
      by_cases c : l[j] = m[j]
      · refine ev_rw (ev_to _ (ih (j + 1) (by omega) hm) fun k => ?_) ?_
        · show slices_Equal_string_string.l0 (k + 1) l m _ _ = _
          rw [slices_Equal_string_string.l0, if_pos (by omega), if_pos (by omega), if_pos (by omega), if_pos (by omega), e1, e2, if_pos (by rw [c]), wrap_id (by omega) (by omega)]; rfl
        · rw [List.drop_eq_getElem_cons h1, List.drop_eq_getElem_cons h2]
          exact decide_eq_decide.2 ⟨fun h => by rw [c, h], fun h => (List.cons.inj h).2⟩
      · refine ev_one fun k => ?_
        show slices_Equal_string_string.l0 (k + 1) l m _ _ = _
        rw [slices_Equal_string_string.l0, if_pos (by omega), if_pos (by omega), if_pos (by omega), if_pos (by omega), e1, e2, if_neg (by rw [tl_eq]; exact c), List.drop_eq_getElem_cons h1, List.drop_eq_getElem_cons h2]
        congr 1
        exact (decide_eq_false fun h => c (List.cons.inj h).1).symm
  by_cases c : l.length = m.length
  · refine ev_eq _ (loop l.length 0 (by omega) c) fun k => ?_
    show slices_Equal_string_string.f k l m = _
    rw [slices_Equal_string_string.f, if_pos (by omega)]; rfl
  · refine ev_now fun k => ?_
    rw [slices_Equal_string_string.f, if_neg (by omega)]
    congr 1
    exact (decide_eq_false fun h => c (by rw [h])).symm
theorem bset_ev (l m : List Int) (hl : l.length ≤ 1000000) : Ev (fun k => slices_Equal_byte_byte.f k l m) (decide (l = m)) := by
  have loop : ∀ n j : Nat, j + n = l.length → l.length = m.length → Ev (fun k => slices_Equal_byte_byte.l0 k l m (l.length : Int) (j : Int)) (decide (l.drop j = m.drop j)) := by
    intro n
    induction n with
    | zero =>
      intro j hj hm
      refine ev_one fun k => ?_
      show slices_Equal_byte_byte.l0 (k + 1) l m _ _ = _
      rw [slices_Equal_byte_byte.l0, if_neg (by omega), List.drop_of_length_le (by omega), List.drop_of_length_le (by omega)]; rfl
    | succ n ih =>
      intro j hj hm
      have h1 : j < l.length := by omega
      have h2 : j < m.length := by omega
      have e1 := rd_at l j h1
      have e2 := rd_at m j h2
      by_cases c : l[j] = m[j]
      · refine ev_rw (ev_to _ (ih (j + 1) (by omega) hm) fun k => ?_) ?_
        · show slices_Equal_byte_byte.l0 (k + 1) l m _ _ = _
          rw [slices_Equal_byte_byte.l0, if_pos (by omega), if_pos (by omega), if_pos (by omega), if_pos (by omega), e1, e2, if_pos (by rw [c]), wrap_id (by omega) (by omega)]; rfl
        · rw [List.drop_eq_getElem_cons h1, List.drop_eq_getElem_cons h2]
          exact decide_eq_decide.2 ⟨fun h => by rw [c, h], fun h => (List.cons.inj h).2⟩
      · refine ev_one fun k => ?_
        show slices_Equal_byte_byte.l0 (k + 1) l m _ _ = _
        rw [slices_Equal_byte_byte.l0, if_pos (by omega), if_pos (by omega), if_pos (by omega), if_pos (by omega), e1, e2, if_neg c, List.drop_eq_getElem_cons h1, List.drop_eq_getElem_cons h2]
        congr 1
        exact (decide_eq_false fun h => c (List.cons.inj h).1).symm
  by_cases c : l.length = m.length
  · refine ev_eq _ (loop l.length 0 (by omega) c) fun k => ?_
    show slices_Equal_byte_byte.f k l m = _
    rw [slices_Equal_byte_byte.f, if_pos (by omega)]; rfl
  · refine ev_now fun k => ?_
    rw [slices_Equal_byte_byte.f, if_neg (by omega)]
    congr 1
    exact (decide_eq_false fun h => c (by rw [h])).symm
theorem flds_at (l : List (ByteArray × ByteArray)) (j : Nat) (h : j < l.length) : rd_T53 (flds l) (j : Int) = ⟨l[j].1, l[j].2⟩ := by
  unfold rd_T53 flds
  rw [Int.toNat_natCast, List.getD_eq_getElem?_getD, List.getElem?_map, List.getElem?_eq_getElem h]; rfl
theorem pair_ne (p q : ByteArray × ByteArray) : ((!(p.1.toList == q.1.toList) || (!(p.2.toList == q.2.toList))) = true) = (p ≠ q) := by
  rw [tl_beq, tl_beq]
  obtain ⟨a, b⟩ := p
  obtain ⟨c, d⟩ := q
  by_cases h1 : a = c <;> by_cases h2 : b = d <;> simp [h1, h2]
theorem fset_ev (l m : List (ByteArray × ByteArray)) (hl : l.length ≤ 1000000) : Ev (fun k => field_Field_42.f k (flds l) (flds m)) (decide (l = m)) := by
  have el : (flds l).length = l.length := by simp [flds]
  have em : (flds m).length = m.length := by simp [flds]
  have loop : ∀ n j : Nat, j + n = l.length → l.length = m.length → Ev (fun k => field_Field_42.l0 k (flds l) (flds m) (l.length : Int) (j : Int)) (decide (l.drop j = m.drop j)) := by
    intro n
    induction n with
    | zero =>
      intro j hj hm
      refine ev_one fun k => ?_
      show field_Field_42.l0 (k + 1) _ _ _ _ = _
      rw [field_Field_42.l0, if_neg (by omega), List.drop_of_length_le (by omega), List.drop_of_length_le (by omega)]; rfl
    | succ n ih =>
      intro j hj hm
      have h1 : j < l.length := by omega
      have h2 : j < m.length := by omega
      have e1 := flds_at l j h1
      have e2 := flds_at m j h2
      by_cases c : l[j] = m[j]
      · refine ev_rw (ev_to _ (ih (j + 1) (by omega) hm) fun k => ?_) ?_
        · show field_Field_42.l0 (k + 1) _ _ _ _ = _
          rw [field_Field_42.l0, if_pos (by omega), if_pos (by omega), if_pos (by omega), if_pos (by omega), e1, e2, if_neg (by rw [pair_ne]; exact fun h => h c), wrap_id (by omega) (by omega)]; rfl
        · rw [List.drop_eq_getElem_cons h1, List.drop_eq_getElem_cons h2]
          exact decide_eq_decide.2 ⟨fun h => by rw [c, h], fun h => (List.cons.inj h).2⟩
      · refine ev_one fun k => ?_
        show field_Field_42.l0 (k + 1) _ _ _ _ = _
        rw [field_Field_42.l0, if_pos (by omega), if_pos (by omega), if_pos (by omega), if_pos (by omega), e1, e2, if_pos (by rw [pair_ne]; exact c), List.drop_eq_getElem_cons h1, List.drop_eq_getElem_cons h2]
        congr 1
        exact (decide_eq_false fun h => c (List.cons.inj h).1).symm
  by_cases c : l.length = m.length
  · refine ev_eq _ (loop l.length 0 (by omega) c) fun k => ?_
    show field_Field_42.f k _ _ = _
    rw [field_Field_42.f, if_pos (by omega), el]; rfl
  · refine ev_now fun k => ?_
    rw [field_Field_42.f, if_neg (by omega)]
    congr 1
    exact (decide_eq_false fun h => c (by rw [h])).symm
theorem PE_ext {x y : PE} (h1 : x.key = y.key) (h2 : x.second = y.second) (h3 : x.names = y.names) (h4 : x.asked = y.asked) (h5 : x.came = y.came) (h6 : x.status = y.status) (h7 : x.fields = y.fields) (h8 : x.body = y.body) (h9 : x.gen = y.gen) : x = y := by
  cases x; cases y; simp_all
open Classical in
noncomputable def sameP (x y : PE) : Bool := decide (x = y)
theorem sameP_true {x y : PE} : sameP x y = true ↔ x = y := by simp [sameP]
theorem sameP_self (x : PE) : sameP x x = true := sameP_true.2 rfl
theorem sameP_no {x y : PE} (h : x ≠ y) : sameP x y = false := by simp [sameP, h]
theorem same_ev (x y : PE) (hx : Bnd x) : Ev (fun k => entry_Same.f k x.key x.second x.names x.asked x.came x.status (flds x.fields) x.body x.gen y.key y.second y.names y.asked y.came y.status (flds y.fields) y.body y.gen) (sameP x y) := by
  obtain ⟨K1, h1⟩ := sset_ev x.names y.names (by have := hx.names; omega)
  obtain ⟨K2, h2⟩ := fset_ev x.fields y.fields (by have := hx.fields; omega)
  obtain ⟨K3, h3⟩ := bset_ev x.body y.body (by have := hx.body; omega)
  refine ⟨K1 + K2 + K3, fun k hk => ?_⟩
  have h1 : slices_Equal_string_string.f k x.names y.names = _ := h1 k (by omega)
  have h2 : field_Field_42.f k (flds x.fields) (flds y.fields) = _ := h2 k (by omega)
  have h3 : slices_Equal_byte_byte.f k x.body y.body = _ := h3 k (by omega)
  show entry_Same.f k _ _ _ _ _ _ _ _ _ _ _ _ _ _ _ _ _ _ = _
  unfold entry_Same.f
  rw [h1, h2, h3]
  simp only [tl_eq, Option.bind_some, decide_eq_true_eq]
  by_cases c1 : x.key = y.key
  · by_cases c2 : x.second = y.second
    · by_cases c3 : x.names = y.names
      · by_cases c4 : x.asked = y.asked
        · by_cases c5 : x.came = y.came
          · by_cases c6 : x.status = y.status
            · by_cases c7 : x.fields = y.fields
              · by_cases c8 : x.body = y.body
                · rw [if_pos c1, if_pos c2, if_pos c3, if_pos c4, if_pos c5, if_pos c6, if_pos c7, if_pos c8]
                  congr 1
                  by_cases c9 : x.gen = y.gen
                  · rw [PE_ext c1 c2 c3 c4 c5 c6 c7 c8 c9, sameP_self]; simp
                  · rw [sameP_no (fun h => c9 (by rw [h]))]; simpa using c9
                · rw [if_pos c1, if_pos c2, if_pos c3, if_pos c4, if_pos c5, if_pos c6, if_pos c7, if_neg c8, sameP_no (fun h => c8 (by rw [h]))]
              · rw [if_pos c1, if_pos c2, if_pos c3, if_pos c4, if_pos c5, if_pos c6, if_neg c7, sameP_no (fun h => c7 (by rw [h]))]
            · rw [if_pos c1, if_pos c2, if_pos c3, if_pos c4, if_pos c5, if_neg c6, sameP_no (fun h => c6 (by rw [h]))]
          · rw [if_pos c1, if_pos c2, if_pos c3, if_pos c4, if_neg c5, sameP_no (fun h => c5 (by rw [h]))]
        · rw [if_pos c1, if_pos c2, if_pos c3, if_neg c4, sameP_no (fun h => c4 (by rw [h]))]
      · rw [if_pos c1, if_pos c2, if_neg c3, sameP_no (fun h => c3 (by rw [h]))]
    · rw [if_pos c1, if_neg c2, sameP_no (fun h => c2 (by rw [h]))]
  · rw [if_neg c1, sameP_no (fun h => c1 (by rw [h]))]
/-! ### small entries -/
def smallP (x : PE) : Bool := x.fields.all (fun p => decide (p.1.size ≤ 200 ∧ p.2.size ≤ 1100)) && (x.names.all (fun s => decide (s.size ≤ 100)) && decide (x.key.size ≤ 1300 ∧ x.second.size ≤ 700 ∧ x.names.length ≤ 20 ∧ x.fields.length ≤ 70 ∧ x.body.length ≤ 2100))
theorem small_l1 (x : PE) (hn : x.names.length ≤ 9223372036854775807) (n : Nat) : ∀ j : Nat, j + n = x.names.length → Ev (fun k => pantrymade_SmallEntry.l1 k x.names (x.names.length : Int) (j : Int) x.key x.second x.names x.asked x.came x.status (flds x.fields) x.body x.gen) ((x.names.drop j).all (fun s => decide (s.size ≤ 100)) && decide (x.key.size ≤ 1300 ∧ x.second.size ≤ 700 ∧ x.names.length ≤ 20 ∧ x.fields.length ≤ 70 ∧ x.body.length ≤ 2100)) := by
  have el : (flds x.fields).length = x.fields.length := by simp [flds]
  induction n with
  | zero =>
    intro j hj
    refine ev_one fun k => ?_
    show pantrymade_SmallEntry.l1 (k + 1) _ _ _ _ _ _ _ _ _ _ _ _ = _
    rw [pantrymade_SmallEntry.l1, if_neg (by omega), List.drop_of_length_le (by omega), el]
    by_cases a1 : x.key.size ≤ 1300
    · by_cases a2 : x.second.size ≤ 700
      · by_cases a3 : x.names.length ≤ 20
        · by_cases a4 : x.fields.length ≤ 70
          · rw [if_pos (by omega), if_pos (by omega), if_pos (by omega), if_pos (by omega)]
            congr 1
            simp only [List.all_nil, Bool.true_and]
            exact decide_eq_decide.2 (by omega)
          · rw [if_pos (by omega), if_pos (by omega), if_pos (by omega), if_neg (by omega)]; simp [a4]
        · rw [if_pos (by omega), if_pos (by omega), if_neg (by omega)]; simp [a3]
      · rw [if_pos (by omega), if_neg (by omega)]; simp [a2]
    · rw [if_neg (by omega)]; simp [a1]
  | succ n ih =>
    intro j hj
    have h1 : j < x.names.length := by omega
    have e1 : rdOf ByteArray.empty x.names (j : Int) = x.names[j] := by unfold rdOf; rw [Int.toNat_natCast, List.getD_eq_getElem?_getD, List.getElem?_eq_getElem h1]; rfl
    by_cases c : (x.names[j].size : Int) > 100
    · refine ev_one fun k => ?_
      show pantrymade_SmallEntry.l1 (k + 1) _ _ _ _ _ _ _ _ _ _ _ _ = _
      rw [pantrymade_SmallEntry.l1, if_pos (by omega), if_pos (by omega), if_pos (by omega), e1, if_pos c, List.drop_eq_getElem_cons h1, List.all_cons, decide_eq_false (by omega)]
      rfl
    · refine ev_rw (ev_to _ (ih (j + 1) (by omega)) fun k => ?_) ?_
      · show pantrymade_SmallEntry.l1 (k + 1) _ _ _ _ _ _ _ _ _ _ _ _ = _
        rw [pantrymade_SmallEntry.l1, if_pos (by omega), if_pos (by omega), if_pos (by omega), e1, if_neg c, wrap_id (by omega) (by omega)]; rfl
      · rw [List.drop_eq_getElem_cons h1, List.all_cons, decide_eq_true (show x.names[j].size ≤ 100 by omega)]; rfl
theorem small_l0 (x : PE) (hn : x.names.length ≤ 9223372036854775807) (hf : x.fields.length ≤ 9223372036854775807) (n : Nat) : ∀ j : Nat, j + n = x.fields.length → Ev (fun k => pantrymade_SmallEntry.l0 k (flds x.fields) (x.fields.length : Int) (j : Int) x.key x.second x.names x.asked x.came x.status (flds x.fields) x.body x.gen) ((x.fields.drop j).all (fun p => decide (p.1.size ≤ 200 ∧ p.2.size ≤ 1100)) && (x.names.all (fun s => decide (s.size ≤ 100)) && decide (x.key.size ≤ 1300 ∧ x.second.size ≤ 700 ∧ x.names.length ≤ 20 ∧ x.fields.length ≤ 70 ∧ x.body.length ≤ 2100))) := by
  have el : (flds x.fields).length = x.fields.length := by simp [flds]
  induction n with
  | zero =>
    intro j hj
    refine ev_rw (ev_to _ (small_l1 x hn x.names.length 0 (by omega)) fun k => ?_) ?_
    · show pantrymade_SmallEntry.l0 (k + 1) _ _ _ _ _ _ _ _ _ _ _ _ = _
      rw [pantrymade_SmallEntry.l0, if_neg (by omega)]; rfl
    · rw [List.drop_of_length_le (show x.fields.length ≤ j from by omega)]; rfl
  | succ n ih =>
    intro j hj
    have h1 : j < x.fields.length := by omega
    have e1 := flds_at x.fields j h1
    by_cases c : (x.fields[j].1.size : Int) > 200
    · refine ev_one fun k => ?_
      show pantrymade_SmallEntry.l0 (k + 1) _ _ _ _ _ _ _ _ _ _ _ _ = _
      rw [pantrymade_SmallEntry.l0, if_pos (by omega), if_pos (by omega), if_pos (by omega), e1]
      dsimp only
      rw [if_pos c, List.drop_eq_getElem_cons h1, List.all_cons, decide_eq_false (by omega)]
      rfl
    · by_cases c2 : (x.fields[j].2.size : Int) > 1100
      · refine ev_one fun k => ?_
        show pantrymade_SmallEntry.l0 (k + 1) _ _ _ _ _ _ _ _ _ _ _ _ = _
        rw [pantrymade_SmallEntry.l0, if_pos (by omega), if_pos (by omega), if_pos (by omega), e1]
        dsimp only
        rw [if_neg c, if_pos c2, List.drop_eq_getElem_cons h1, List.all_cons, decide_eq_false (by omega)]
        rfl
      · refine ev_rw (ev_to _ (ih (j + 1) (by omega)) fun k => ?_) ?_
        · show pantrymade_SmallEntry.l0 (k + 1) _ _ _ _ _ _ _ _ _ _ _ _ = _
          rw [pantrymade_SmallEntry.l0, if_pos (by omega), if_pos (by omega), if_pos (by omega), e1]
          dsimp only
          rw [if_neg c, if_neg c2, wrap_id (by omega) (by omega)]; rfl
        · rw [List.drop_eq_getElem_cons h1, List.all_cons, decide_eq_true (show x.fields[j].1.size ≤ 200 ∧ x.fields[j].2.size ≤ 1100 by omega)]; rfl
theorem small_ev (x : PE) (hn : x.names.length ≤ 9223372036854775807) (hf : x.fields.length ≤ 9223372036854775807) : Ev (fun k => pantrymade_SmallEntry.f k x.key x.second x.names x.asked x.came x.status (flds x.fields) x.body x.gen) (smallP x) := by
  have el : (flds x.fields).length = x.fields.length := by simp [flds]
  refine ev_eq _ (small_l0 x hn hf x.fields.length 0 (by omega)) fun k => ?_
  show pantrymade_SmallEntry.f k _ _ _ _ _ _ _ _ _ = _
  rw [pantrymade_SmallEntry.f, el]; rfl
theorem smallP_bnd {x : PE} (h : smallP x = true) (hb : ∀ c ∈ x.body, 0 ≤ c ∧ c < 256) : Bnd x := by
  unfold smallP at h
  simp only [Bool.and_eq_true, List.all_eq_true, decide_eq_true_eq] at h
  obtain ⟨h1, h2, h3⟩ := h
  exact ⟨by omega, by omega, by omega, fun s hs => by have := h2 s hs; omega, by omega, fun p hp => by have := h1 p hp; omega, by omega, hb⟩
/-! ### records that are spoilt -/
theorem dec_shape (v n : Int) (chk r : List Int) (hv : 1 ≤ v ∧ v ≤ 3) (hn : 0 ≤ n ∧ n < 65536) (hc : chk.length = 4) (hl : r.length ≤ 3992) :
    decP ([69, v % 256] ++ numP 2 n ++ chk ++ r) = if n ≠ (r.length : Int) then (zP, 0, 10) else if big chk ≠ sumP r then (zP, 0, 44)
      else if ((Rd.mk r false).entry v).2.bad = true ∨ 0 < ((Rd.mk r false).entry v).2.b.length then (zP, 0, 10) else if rightP ((Rd.mk r false).entry v).1 = false then (zP, 0, 10) else (((Rd.mk r false).entry v).1, v, 0) := by
  generalize hL : [69, v % 256] ++ numP 2 n ++ chk ++ r = L
  have hlen : L.length = 8 + r.length := by rw [← hL]; simp only [List.length_append, numP_length, List.length_cons, List.length_nil, hc]; try omega
  have h0 : L.getD 0 0 = 69 := by rw [← hL]; simp
  have h1 : L.getD 1 0 = v := by rw [← hL]; simp; omega
  have hd : L.drop 2 = numP 2 n ++ (chk ++ r) := by rw [← hL]; simp [List.append_assoc]
  have g1 : (Rd.mk (L.drop 2) false).get 2 = (n, ⟨chk ++ r, false⟩) := by rw [hd, get_num2 _ _ hn.1 hn.2]
  have g2 : (Rd.mk (chk ++ r) false).get 4 = (big chk, ⟨r, false⟩) := by unfold Rd.get; rw [bytes_app _ _ 4 hc]
  unfold decP
  rw [h0, h1, g1]
  simp only []
  rw [g2]
  simp only []
  rw [if_neg (by omega), if_neg (by omega)]
theorem recOf_len (v : Int) (r : List Int) : (recOf v r).length = 8 + r.length := by
  unfold recOf; simp only [List.length_append, numP_length, List.length_cons, List.length_nil]; try omega
/-- A byte of the rest that is turned is found. -/
theorem dec_turned (v : Int) (r : List Int) (hv : 1 ≤ v ∧ v ≤ 3) (hr : ∀ c ∈ r, 0 ≤ c ∧ c < 256) (hl : r.length ≤ 3992) (i : Nat) (h4 : 4 ≤ i) (hi : i < (recOf v r).length) (y : Int) (hy : 0 ≤ y ∧ y < 256) (hne : y ≠ (recOf v r)[i]) : decP ((recOf v r).set i y) = (zP, 0, 44) := by
  have hs := sumP_rng r
  rw [recOf_len] at hi
  have hA : ([69, v % 256] ++ numP 2 (r.length : Int)).length = 4 := by simp [numP_length]
  have hB : ([69, v % 256] ++ numP 2 (r.length : Int) ++ numP 4 (sumP r)).length = 8 := by simp [numP_length]
  by_cases c : i < 8
  · have e : (recOf v r).set i y = [69, v % 256] ++ numP 2 (r.length : Int) ++ (numP 4 (sumP r)).set (i - 4) y ++ r := by
      unfold recOf
      rw [List.set_append_left _ _ (by rw [hB]; omega), List.set_append_right _ _ (by rw [hA]; omega), hA]
    have e2 : (recOf v r)[i]'(by rw [recOf_len]; omega) = (numP 4 (sumP r))[i - 4]'(by rw [numP_length]; omega) := by
      unfold recOf
      rw [List.getElem_append_left (by rw [hB]; omega), List.getElem_append_right (by rw [hA]; omega)]
      simp only [hA]
    rw [e2] at hne
    rw [e, dec_shape v _ _ r hv ⟨by omega, by omega⟩ (by rw [List.length_set, numP_length]) hl, if_neg (by simp), if_pos]
    intro hb
    have hrng : ∀ c ∈ (numP 4 (sumP r)).set (i - 4) y, 0 ≤ c ∧ c < 256 := fun c hc => by
      rcases List.mem_or_eq_of_mem_set hc with h | h
      · exact numP_rng _ _ c h
      · rw [h]; exact hy
    obtain ⟨a, b, c', d, he⟩ := list_four ((numP 4 (sumP r)).set (i - 4) y) (by rw [List.length_set, numP_length])
    have h5 : numP 4 (big ((numP 4 (sumP r)).set (i - 4) y)) = (numP 4 (sumP r)).set (i - 4) y := by
      rw [he] at hrng ⊢
      exact numP4_big a b c' d (hrng a (by simp)) (hrng b (by simp)) (hrng c' (by simp)) (hrng d (by simp))
    rw [hb] at h5
    apply hne
    have h6 : (numP 4 (sumP r))[i - 4]'(by rw [numP_length]; omega) = ((numP 4 (sumP r)).set (i - 4) y)[i - 4]'(by rw [List.length_set, numP_length]; omega) := by
      congr 1
    rw [h6, List.getElem_set_self]
  · have e : (recOf v r).set i y = [69, v % 256] ++ numP 2 ((r.set (i - 8) y).length : Int) ++ numP 4 (sumP r) ++ r.set (i - 8) y := by
      unfold recOf
      rw [List.set_append_right _ _ (by rw [hB]; omega), hB, List.length_set]
    have e2 : (recOf v r)[i]'(by rw [recOf_len]; omega) = r[i - 8]'(by omega) := by
      unfold recOf
      rw [List.getElem_append_right (by rw [hB]; omega)]
      simp only [hB]
    rw [e2] at hne
    rw [e, dec_shape v _ _ _ hv ⟨by omega, by rw [List.length_set]; omega⟩ (numP_length _ _) (by rw [List.length_set]; exact hl), if_neg (by simp), big_numP4 _ hs.1 hs.2, if_pos]
    intro hb
    have hk : i - 8 < r.length := by omega
    have h1 : r = r.take (i - 8) ++ r[i - 8] :: r.drop (i - 8 + 1) := by rw [← List.drop_eq_getElem_cons hk, List.take_append_drop]
    have h2 : r.set (i - 8) y = r.take (i - 8) ++ y :: r.drop (i - 8 + 1) := by rw [List.set_eq_take_append_cons_drop, if_pos hk]
    have h3 : sumP (r.take (i - 8) ++ r[i - 8] :: r.drop (i - 8 + 1)) = sumP (r.take (i - 8) ++ y :: r.drop (i - 8 + 1)) := by rw [← h1, ← h2]; exact hb
    exact hne (sumP_turned _ _ _ _ (fun c hc => hr c (List.mem_of_mem_take hc)) (fun c hc => hr c (List.mem_of_mem_drop hc)) (hr _ (List.getElem_mem hk)) hy h3).symm
end Go.Proofs.YtllnleokjcimhaaDoor.Pure
