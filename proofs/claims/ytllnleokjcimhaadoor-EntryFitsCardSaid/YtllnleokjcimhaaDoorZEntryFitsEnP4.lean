import Derived.Test.YtllnleokjcimhaaDoorZEntryFitsEnP3
/-
The plain law, part 4: what was written is read again, and what is read is written as the same bytes.
-/
namespace Go.Proofs.YtllnleokjcimhaaDoor.Pure
open Go.RowKit Go.Proofs.YtllnleokjcimhaaDoor.P Go.Proofs.YtllnleokjcimhaaDoor.En Go.Proofs.YtllnleokjcimhaaDoorW.PrintWords Go.Proofs.YtllnleokjcimhaaDoorW.PrintLast Go.Proofs.YtllnleokjcimhaaDoorW.PrintMore
set_option linter.unusedVariables false
set_option linter.unusedSimpArgs false
/-! ### written, then read -/
theorem bytes_app (a b : List Int) (n : Nat) (h : a.length = n) : (Rd.mk (a ++ b) false).bytes n = (a, ⟨b, false⟩) := by
  unfold Rd.bytes
  rw [if_neg (by simp; omega)]
  subst h
  simp
theorem get_num2 (n : Int) (b : List Int) (h0 : 0 ≤ n) (h1 : n < 65536) : (Rd.mk (numP 2 n ++ b) false).get 2 = (n, ⟨b, false⟩) := by
  unfold Rd.get
  rw [bytes_app _ _ 2 (numP_length _ _), big_numP2 n h0 h1]
theorem get_num4 (n : Int) (b : List Int) (h0 : 0 ≤ n) (h1 : n < 4294967296) : (Rd.mk (numP 4 n ++ b) false).get 4 = (n, ⟨b, false⟩) := by
  unfold Rd.get
  rw [bytes_app _ _ 4 (numP_length _ _), big_numP4 n h0 h1]
theorem get_num6 (n : Int) (b : List Int) (h0 : 0 ≤ n) (h1 : n < 281474976710656) : (Rd.mk (numP 6 n ++ b) false).get 6 = (n, ⟨b, false⟩) := by
  unfold Rd.get
  rw [bytes_app _ _ 6 (numP_length _ _), big_numP6 n h0 h1]
theorem strOf_bytes (s : ByteArray) : strOfNums (bytesOf s) = s := by
  refine ba_ext ?_
  rw [strOfNums_data]
  unfold bytesOf
  rw [List.map_map]
  conv => rhs; rw [← List.map_id s.data.toList]
  apply List.map_congr_left
  intro b _
  simp
theorem bytes_strOf (l : List Int) (h : ∀ c ∈ l, 0 ≤ c ∧ c < 256) : bytesOf (strOfNums l) = l := by
  unfold bytesOf
  rw [strOfNums_data, List.map_map]
  conv => rhs; rw [← List.map_id l]
  apply List.map_congr_left
  intro c hc
  have := h c hc
  simp
  omega
theorem text_app (s : ByteArray) (b : List Int) (hs : s.size < 65536) : (Rd.mk (textP s ++ b) false).text = (s, ⟨b, false⟩) := by
  unfold Rd.text Rd.textB textP
  rw [List.append_assoc, get_num2 _ _ (by omega) (by omega)]
  simp only [Int.toNat_natCast]
  rw [bytes_app _ _ _ (bytesOf_length s), strOf_bytes]
theorem texts_app (l : List ByteArray) (b : List Int) (hs : ∀ s ∈ l, s.size < 65536) : Rd.texts l.length (Rd.mk (textsP l ++ b) false) = (l, ⟨b, false⟩) := by
  induction l with
  | nil => rfl
  | cons s l ih =>
    rw [List.length_cons, Rd.texts, if_neg (by simp), textsP_cons, List.append_assoc, text_app s _ (hs s (List.mem_cons_self ..)), ih (fun t ht => hs t (List.mem_cons_of_mem _ ht))]
theorem field_app (p : ByteArray × ByteArray) (b : List Int) (h1 : p.1.size < 65536) (h2 : p.2.size < 65536) : (Rd.mk (textP p.1 ++ textP p.2 ++ b) false).field = (p, ⟨b, false⟩) := by
  unfold Rd.field
  rw [List.append_assoc, text_app _ _ h1]
  simp only
  rw [text_app _ _ h2]
theorem fields_app (l : List (ByteArray × ByteArray)) (b : List Int) (hs : ∀ p ∈ l, p.1.size < 65536 ∧ p.2.size < 65536) : Rd.fields l.length (Rd.mk (fieldsB l ++ b) false) = (l, ⟨b, false⟩) := by
  induction l with
  | nil => rfl
  | cons s l ih =>
    have h1 := hs s (List.mem_cons_self ..)
    rw [List.length_cons, Rd.fields, if_neg (by simp), fieldsB_cons, List.append_assoc, field_app s _ h1.1 h1.2, ih (fun t ht => hs t (List.mem_cons_of_mem _ ht))]
theorem fieldsP_size {l : List (ByteArray × ByteArray)} (h : fieldsP l = true) : l.length ≤ 64 ∧ ∀ p ∈ l, p.1.size ≤ 64 ∧ p.2.size ≤ 1024 := by
  unfold fieldsP at h
  rw [Bool.and_eq_true, decide_eq_true_eq, List.all_eq_true] at h
  refine ⟨h.1, fun p hp => ?_⟩
  have := h.2 p hp
  unfold fieldP at this
  simp only [Bool.and_eq_true, decide_eq_true_eq] at this
  exact ⟨this.1.1.1.2, this.1.1.2⟩
theorem fitsP_right {x : PE} {v : Int} (h : fitsP x v = true) : rightP x = true ∧ (1 ≤ v ∧ v ≤ 3) ∧ (v = 3 ∨ (x.second.size = 0 ∧ x.names.length = 0)) ∧ (v ≠ 1 ∨ x.gen = 1) := by
  unfold fitsP at h
  simp only [Bool.and_eq_true, decide_eq_true_eq] at h
  exact ⟨h.1.1.1, h.1.1.2, h.1.2, h.2⟩
theorem empty_of_size {s : ByteArray} (h : s.size = 0) : s = ⟨#[]⟩ := ba_ext (by rw [sz] at h; exact List.length_eq_zero_iff.1 h)
/-- A record's rest is read as its entry. -/
theorem entry_rest (x : PE) (v : Int) (h : fitsP x v = true) (hbd : ∀ c ∈ x.body, 0 ≤ c ∧ c < 256) : (Rd.mk (restP v x) false).entry v = (x, ⟨[], false⟩) := by
  obtain ⟨hr, hv, h3, h1⟩ := fitsP_right h
  obtain ⟨hk, hn, hi, hf, hb⟩ := rightP_nums hr
  have hn := namesP_size hn
  have hf := fieldsP_size hf
  have tail : ∀ (sec : ByteArray) (names : List ByteArray) (gen : Int), tailE ⟨textP x.key ++ (numP 6 x.asked ++ (numP 6 x.came ++ (numP 6 x.status ++ (numP 2 (x.fields.length : Int) ++ (fieldsB x.fields ++ textP (strOfNums x.body)))))), false⟩ sec names gen = (⟨x.key, sec, names, x.asked, x.came, x.status, x.fields, x.body, gen⟩, ⟨[], false⟩) := by
    intro sec names gen
    unfold tailE Rd.fieldsOf
    simp only []
    rw [text_app _ _ (by omega)]
    simp only []
    rw [get_num6 _ _ (by omega) (by omega)]
    simp only []
    rw [get_num6 _ _ (by omega) (by omega)]
    simp only []
    rw [get_num6 _ _ (by omega) (by omega)]
    simp only []
    rw [get_num2 _ _ (by omega) (by omega)]
    simp only [Int.toNat_natCast]
    rw [fields_app _ _ (fun p hp => by have := hf.2 p hp; omega)]
    simp only []
    have ht := text_app (strOfNums x.body) [] (by rw [strOfNums_size']; omega)
    rw [List.append_nil] at ht
    rw [ht, bytes_strOf _ hbd]
  unfold restP headB genB
  rcases (by omega : v = 1 ∨ v = 2 ∨ v = 3) with rfl | rfl | rfl
  · rw [entry_one, if_neg (by decide), if_neg (by decide), List.nil_append, List.nil_append, tail]
    have e1 := empty_of_size (by rcases h3 with h3 | h3; omega; exact h3.1 : x.second.size = 0)
    have e2 : x.names = [] := List.length_eq_zero_iff.1 (by rcases h3 with h3 | h3; omega; exact h3.2)
    have e3 : x.gen = 1 := by rcases h1 with h1 | h1; omega; exact h1
    rw [← e1, ← e2, ← e3]
  · rw [entry_two, if_neg (by decide), if_pos (by decide), List.nil_append, get_num6 _ _ (by omega) (by omega)]
    simp only []
    rw [tail]
    have e1 := empty_of_size (by rcases h3 with h3 | h3; omega; exact h3.1 : x.second.size = 0)
    have e2 : x.names = [] := List.length_eq_zero_iff.1 (by rcases h3 with h3 | h3; omega; exact h3.2)
    rw [← e1, ← e2]
  · rw [entry_three, if_pos rfl, if_pos (by decide), List.append_assoc, text_app _ _ (by omega)]
    simp only []
    rw [List.append_assoc, get_num2 _ _ (by omega) (by omega)]
    simp only [Int.toNat_natCast]
    rw [texts_app _ _ (fun s hs => by have := hn.2 s hs; omega)]
    simp only []
    rw [get_num6 _ _ (by omega) (by omega)]
    simp only []
    rw [tail]
/-! ### what Decode tells -/
def decP (l : List Int) : PE × Int × Int :=
  if l.length < 8 ∨ 4000 < l.length ∨ l.getD 0 0 ≠ 69 then (zP, 0, 10)
  else if l.getD 1 0 < 1 ∨ 3 < l.getD 1 0 then (zP, 0, 50)
  else if ((Rd.mk (l.drop 2) false).get 2).1 ≠ ((((Rd.mk (l.drop 2) false).get 2).2.get 4).2.b.length : Int) then (zP, 0, 10)
  else if (((Rd.mk (l.drop 2) false).get 2).2.get 4).1 ≠ sumP (((Rd.mk (l.drop 2) false).get 2).2.get 4).2.b then (zP, 0, 44)
  else if ((((Rd.mk (l.drop 2) false).get 2).2.get 4).2.entry (l.getD 1 0)).2.bad = true ∨ 0 < ((((Rd.mk (l.drop 2) false).get 2).2.get 4).2.entry (l.getD 1 0)).2.b.length then (zP, 0, 10)
  else if rightP ((((Rd.mk (l.drop 2) false).get 2).2.get 4).2.entry (l.getD 1 0)).1 = false then (zP, 0, 10)
  else (((((Rd.mk (l.drop 2) false).get 2).2.get 4).2.entry (l.getD 1 0)).1, l.getD 1 0, 0)
theorem bytes_rng2 {r : Rd} (h : ∀ x ∈ r.b, 0 ≤ x ∧ x < 256) (n : Nat) : ∀ x ∈ (r.bytes n).2.b, 0 ≤ x ∧ x < 256 := by
  unfold Rd.bytes
  split
  · exact h
  · exact fun x hx => h x (List.mem_of_mem_drop hx)
theorem get_rng2 {r : Rd} (h : ∀ x ∈ r.b, 0 ≤ x ∧ x < 256) (n : Nat) : ∀ x ∈ (r.get n).2.b, 0 ≤ x ∧ x < 256 := bytes_rng2 h n
theorem get2_lt {r : Rd} (h : ∀ x ∈ r.b, 0 ≤ x ∧ x < 256) : (r.get 2).1 < 65536 := by
  have h1 := big_bound _ (bytes_rng h 2)
  have h2 : (r.bytes 2).1.length ≤ 2 := by
    unfold Rd.bytes; split
    · simp
    · simp; omega
  have h3 : (256 : Int) ^ (r.bytes 2).1.length ≤ 65536 := by
    rcases (by omega : (r.bytes 2).1.length = 0 ∨ (r.bytes 2).1.length = 1 ∨ (r.bytes 2).1.length = 2) with e | e | e <;> rw [e] <;> decide
  show big (r.bytes 2).1 < 65536
  omega
theorem text_rng2 {r : Rd} (h : ∀ x ∈ r.b, 0 ≤ x ∧ x < 256) : ∀ x ∈ r.text.2.b, 0 ≤ x ∧ x < 256 := bytes_rng2 (get_rng2 h 2) _
theorem texts_bnd (n : Nat) : ∀ {r : Rd}, (∀ x ∈ r.b, 0 ≤ x ∧ x < 256) → (Rd.texts n r).1.length ≤ n ∧ (∀ s ∈ (Rd.texts n r).1, s.size < 65536) ∧ (∀ x ∈ (Rd.texts n r).2.b, 0 ≤ x ∧ x < 256) := by
  induction n with
  | zero => intro r h; exact ⟨Nat.le_refl _, (fun s hs => by cases hs), h⟩
  | succ n ih =>
    intro r h
    rw [Rd.texts]
    split
    · exact ⟨by simp, (fun s hs => by cases hs), h⟩
    · have h1 := ih (text_rng2 h)
      refine ⟨by simp; exact h1.1, fun s hs => ?_, h1.2.2⟩
      rcases List.mem_cons.1 hs with rfl | hs
      · exact text_size h
      · exact h1.2.1 s hs
theorem fields_bnd (n : Nat) : ∀ {r : Rd}, (∀ x ∈ r.b, 0 ≤ x ∧ x < 256) → (Rd.fields n r).1.length ≤ n ∧ (∀ p ∈ (Rd.fields n r).1, p.1.size < 65536 ∧ p.2.size < 65536) ∧ (∀ x ∈ (Rd.fields n r).2.b, 0 ≤ x ∧ x < 256) := by
  induction n with
  | zero => intro r h; exact ⟨Nat.le_refl _, (fun s hs => by cases hs), h⟩
  | succ n ih =>
    intro r h
    rw [Rd.fields]
    split
    · exact ⟨by simp, (fun s hs => by cases hs), h⟩
    · have h1 := ih (r := r.field.2) (text_rng2 (text_rng2 h))
      refine ⟨by simp; exact h1.1, fun s hs => ?_, h1.2.2⟩
      rcases List.mem_cons.1 hs with rfl | hs
      · exact ⟨text_size h, text_size (text_rng2 h)⟩
      · exact h1.2.1 s hs
theorem entry_bnd {r : Rd} (h : ∀ x ∈ r.b, 0 ≤ x ∧ x < 256) (v : Int) : Bnd (r.entry v).1 := by
  unfold Rd.entry
  dsimp only
  have r1 : ∀ x ∈ (r.secondOf v).2.b, 0 ≤ x ∧ x < 256 := by
    unfold Rd.secondOf; split
    · exact text_rng2 h
    · exact h
  have s1 : (r.secondOf v).1.size < 65536 := by
    unfold Rd.secondOf; split
    · exact text_size h
    · show (⟨#[]⟩ : ByteArray).size < 65536
      decide
  generalize r.secondOf v = s at *
  have n1 : (s.2.namesOf v).1.length ≤ 65536 ∧ (∀ t ∈ (s.2.namesOf v).1, t.size < 65536) ∧ (∀ x ∈ (s.2.namesOf v).2.b, 0 ≤ x ∧ x < 256) := by
    unfold Rd.namesOf; split
    · have := get2_lt r1
      have h2 := texts_bnd (s.2.get 2).1.toNat (get_rng2 r1 2)
      exact ⟨by omega, h2.2⟩
    · exact ⟨by simp, (fun t ht => by cases ht), r1⟩
  generalize s.2.namesOf v = n at *
  have g1 : ∀ x ∈ (n.2.genOf v).2.b, 0 ≤ x ∧ x < 256 := by
    unfold Rd.genOf; split
    · exact get_rng2 n1.2.2 6
    · exact n1.2.2
  generalize n.2.genOf v = g at *
  have k1 := text_size g1
  have k2 := text_rng2 g1
  have a2 := get_rng2 (get_rng2 (get_rng2 k2 6) 6) 6
  generalize (((g.2.text.2.get 6).2.get 6).2.get 6).2 = t at *
  have f0 := get2_lt a2
  have f1 := fields_bnd (t.get 2).1.toNat (get_rng2 a2 2)
  have f1 : (t.fieldsOf).1.length ≤ (t.get 2).1.toNat ∧ (∀ p ∈ t.fieldsOf.1, p.1.size < 65536 ∧ p.2.size < 65536) ∧ (∀ x ∈ t.fieldsOf.2.b, 0 ≤ x ∧ x < 256) := f1
  have b1 := text_size f1.2.2
  exact ⟨by dsimp only; omega, by dsimp only; omega, by dsimp only; omega, fun p hp => by have := n1.2.1 p hp; omega, by dsimp only; omega, fun p hp => by have := f1.2.1 p hp; omega, by rw [bytesOf_length]; omega, bytesOf_rng _⟩
theorem dec_ev (l : List Int) (h : ∀ x ∈ l, 0 ≤ x ∧ x < 256) : Ev (fun k => decO k l) (decP l) := by
  unfold decO decP
  have hd : ∀ x ∈ (Rd.mk (l.drop 2) false).b, 0 ≤ x ∧ x < 256 := fun x hx => h x (List.mem_of_mem_drop hx)
  have hg := get_rng2 (get_rng2 hd 2) 4
  generalize hL : (((Rd.mk (l.drop 2) false).get 2).2.get 4).2 = rd at *
  by_cases c1 : l.length < 8 ∨ 4000 < l.length ∨ l.getD 0 0 ≠ 69
  · rw [if_pos c1]; exact ev_now fun k => by rw [if_pos c1]
  · rw [if_neg c1]
    by_cases c2 : l.getD 1 0 < 1 ∨ 3 < l.getD 1 0
    · rw [if_pos c2]; exact ev_now fun k => by rw [if_neg c1, if_pos c2]
    · rw [if_neg c2]
      by_cases c3 : ((Rd.mk (l.drop 2) false).get 2).1 ≠ (rd.b.length : Int)
      · rw [if_pos c3]; exact ev_now fun k => by rw [if_neg c1, if_neg c2, if_pos c3]
      · rw [if_neg c3]
        have hlen : rd.b.length ≤ 70000 := by
          have := get2_lt hd
          have c3 := Classical.not_not.1 c3
          omega
        have hs := sum_ev rd.b (by omega) hg
        refine ev_eq (fun k => (entry_sum.f k rd.b).bind _) (ev_bind hs ?_) fun k => by rw [if_neg c1, if_neg c2, if_neg c3]
        by_cases c4 : (((Rd.mk (l.drop 2) false).get 2).2.get 4).1 ≠ sumP rd.b
        · rw [if_pos c4]; exact ev_now fun k => by rw [if_pos c4]
        · rw [if_neg c4]
          by_cases c5 : (rd.entry (l.getD 1 0)).2.bad = true ∨ 0 < (rd.entry (l.getD 1 0)).2.b.length
          · rw [if_pos c5]; exact ev_now fun k => by rw [if_neg c4, if_pos c5]
          · rw [if_neg c5]
            have hr := right_ev (rd.entry (l.getD 1 0)).1 (entry_bnd hg _)
            refine ev_eq _ (ev_bind (f := fun _ ok => if ok = false then some (zP, (0 : Int), (10 : Int)) else some ((rd.entry (l.getD 1 0)).1, l.getD 1 0, 0)) hr (ev_now fun k => ?_)) fun k => by rw [if_neg c4, if_neg c5]
            split
            · rfl
            · rfl
/-- What was written is read. -/
theorem dec_enc (x : PE) (v : Int) (h : fitsP x v = true) (hbd : ∀ c ∈ x.body, 0 ≤ c ∧ c < 256) (hl : (restP v x).length ≤ 3992) : decP (recOf v (restP v x)) = (x, v, 0) := by
  obtain ⟨hr, hv, -, -⟩ := fitsP_right h
  have hs := sumP_rng (restP v x)
  have e := entry_rest x v h hbd
  have hd : (recOf v (restP v x)).drop 2 = numP 2 ((restP v x).length : Int) ++ (numP 4 (sumP (restP v x)) ++ restP v x) := by
    unfold recOf; simp [List.append_assoc]
  have h0 : (recOf v (restP v x)).getD 0 0 = 69 := by unfold recOf; simp
  have h1 : (recOf v (restP v x)).getD 1 0 = v := by unfold recOf; simp; omega
  have hlen : (recOf v (restP v x)).length = 8 + (restP v x).length := by unfold recOf; simp only [List.length_append, numP_length, List.length_cons, List.length_nil]; try omega
  have g1 : (Rd.mk ((recOf v (restP v x)).drop 2) false).get 2 = (((restP v x).length : Int), ⟨numP 4 (sumP (restP v x)) ++ restP v x, false⟩) := by rw [hd, get_num2 _ _ (by omega) (by omega)]
  unfold decP
  rw [h0, h1, g1]
  simp only []
  rw [get_num4 _ _ hs.1 hs.2]
  simp only []
  rw [e, hr, hlen]
  rw [if_neg (by omega), if_neg (by omega), if_neg (by simp), if_neg (by simp), if_neg (by simp), if_neg (by simp)]
/-! ### read, then written -/
theorem bytes_bad {r : Rd} {n : Nat} (h : (r.bytes n).2.bad = false) : r.bad = false ∧ r.b = (r.bytes n).1 ++ (r.bytes n).2.b ∧ (r.bytes n).1.length = n := by
  unfold Rd.bytes at *
  split at h
  · cases h
  · rename_i c
    rw [if_neg c]
    refine ⟨by cases hb : r.bad; rfl; exact absurd (.inl hb) c, by simp, by simp; omega⟩
theorem list_two (l : List Int) (h : l.length = 2) : ∃ a b, l = [a, b] := by
  match l, h with
  | [a, b], _ => exact ⟨a, b, rfl⟩
theorem list_four (l : List Int) (h : l.length = 4) : ∃ a b c d, l = [a, b, c, d] := by
  match l, h with
  | [a, b, c, d], _ => exact ⟨a, b, c, d, rfl⟩
theorem list_six (l : List Int) (h : l.length = 6) : ∃ a b c d e f, l = [a, b, c, d, e, f] := by
  match l, h with
  | [a, b, c, d, e, f], _ => exact ⟨a, b, c, d, e, f, rfl⟩
theorem get_bad2 {r : Rd} (hr : ∀ x ∈ r.b, 0 ≤ x ∧ x < 256) (h : (r.get 2).2.bad = false) : r.bad = false ∧ r.b = numP 2 (r.get 2).1 ++ (r.get 2).2.b := by
  obtain ⟨h1, h2, h3⟩ := bytes_bad h
  have hg := bytes_rng hr 2
  refine ⟨h1, h2.trans ?_⟩
  show _ = numP 2 (big (r.bytes 2).1) ++ (r.bytes 2).2.b
  obtain ⟨a, b, e⟩ := list_two _ h3
  rw [e] at hg ⊢
  rw [numP2_big a b (hg a (by simp)) (hg b (by simp))]
theorem get_bad4 {r : Rd} (hr : ∀ x ∈ r.b, 0 ≤ x ∧ x < 256) (h : (r.get 4).2.bad = false) : r.bad = false ∧ r.b = numP 4 (r.get 4).1 ++ (r.get 4).2.b := by
  obtain ⟨h1, h2, h3⟩ := bytes_bad h
  have hg := bytes_rng hr 4
  refine ⟨h1, h2.trans ?_⟩
  show _ = numP 4 (big (r.bytes 4).1) ++ (r.bytes 4).2.b
  obtain ⟨a, b, c, d, e⟩ := list_four _ h3
  rw [e] at hg ⊢
  rw [numP4_big a b c d (hg a (by simp)) (hg b (by simp)) (hg c (by simp)) (hg d (by simp))]
theorem get_bad6 {r : Rd} (hr : ∀ x ∈ r.b, 0 ≤ x ∧ x < 256) (h : (r.get 6).2.bad = false) : r.bad = false ∧ r.b = numP 6 (r.get 6).1 ++ (r.get 6).2.b := by
  obtain ⟨h1, h2, h3⟩ := bytes_bad h
  have hg := bytes_rng hr 6
  refine ⟨h1, h2.trans ?_⟩
  show _ = numP 6 (big (r.bytes 6).1) ++ (r.bytes 6).2.b
  obtain ⟨a, b, c, d, e, f, e1⟩ := list_six _ h3
  rw [e1] at hg ⊢
  rw [numP6_big a b c d e f (hg a (by simp)) (hg b (by simp)) (hg c (by simp)) (hg d (by simp)) (hg e (by simp)) (hg f (by simp))]
theorem text_bad {r : Rd} (hr : ∀ x ∈ r.b, 0 ≤ x ∧ x < 256) (h : r.text.2.bad = false) : r.bad = false ∧ r.b = textP r.text.1 ++ r.text.2.b := by
  obtain ⟨h1, h2, h3⟩ := bytes_bad (r := (r.get 2).2) (n := (r.get 2).1.toNat) h
  obtain ⟨h4, h5⟩ := get_bad2 hr h1
  have hg : ∀ x ∈ r.textB.1, 0 ≤ x ∧ x < 256 := bytes_rng (get_rng2 hr 2) (r.get 2).1.toNat
  have h0 := (big_bound _ (bytes_rng hr 2)).1
  have h0 : 0 ≤ (r.get 2).1 := h0
  refine ⟨h4, h5.trans ?_⟩
  show _ = textP (strOfNums r.textB.1) ++ r.textB.2.b
  unfold textP
  rw [strOfNums_size', bytes_strOf _ hg, show ((r.textB.1.length : Nat) : Int) = (r.get 2).1 from by
    show (((r.get 2).2.bytes (r.get 2).1.toNat).1.length : Int) = _
    rw [h3]; omega, List.append_assoc]
  exact congrArg (numP 2 (r.get 2).1 ++ ·) h2
theorem texts_bad (n : Nat) : ∀ {r : Rd}, (∀ x ∈ r.b, 0 ≤ x ∧ x < 256) → (Rd.texts n r).2.bad = false → r.bad = false ∧ r.b = textsP (Rd.texts n r).1 ++ (Rd.texts n r).2.b ∧ (Rd.texts n r).1.length = n := by
  induction n with
  | zero => intro r hr h; exact ⟨h, rfl, rfl⟩
  | succ n ih =>
    intro r hr h
    rw [Rd.texts] at h ⊢
    by_cases c : r.bad = true
    · rw [if_pos c] at h; rw [c] at h; cases h
    · rw [if_neg c] at h ⊢
      obtain ⟨h1, h2, h3⟩ := ih (text_rng2 hr) h
      obtain ⟨h4, h5⟩ := text_bad hr h1
      refine ⟨h4, h5.trans ?_, by simp [h3]⟩
      show _ = textsP (r.text.1 :: (Rd.texts n r.text.2).1) ++ _
      rw [textsP_cons, List.append_assoc]
      exact congrArg (textP r.text.1 ++ ·) h2
theorem fields_bad (n : Nat) : ∀ {r : Rd}, (∀ x ∈ r.b, 0 ≤ x ∧ x < 256) → (Rd.fields n r).2.bad = false → r.bad = false ∧ r.b = fieldsB (Rd.fields n r).1 ++ (Rd.fields n r).2.b ∧ (Rd.fields n r).1.length = n := by
  induction n with
  | zero => intro r hr h; exact ⟨h, rfl, rfl⟩
  | succ n ih =>
    intro r hr h
    rw [Rd.fields] at h ⊢
    by_cases c : r.bad = true
    · rw [if_pos c] at h; rw [c] at h; cases h
    · rw [if_neg c] at h ⊢
      obtain ⟨h1, h2, h3⟩ := ih (r := r.field.2) (text_rng2 (text_rng2 hr)) h
      obtain ⟨h4, h5⟩ := text_bad (r := r.text.2) (text_rng2 hr) h1
      obtain ⟨h6, h7⟩ := text_bad hr h4
      refine ⟨h6, h7.trans ?_, by simp [h3]⟩
      show _ = fieldsB (r.field.1 :: (Rd.fields n r.field.2).1) ++ _
      rw [fieldsB_cons, List.append_assoc, List.append_assoc]
      refine congrArg (textP r.text.1 ++ ·) (h5.trans ?_)
      exact congrArg (textP r.text.2.text.1 ++ ·) h2
theorem tail_bad {g : Rd} {sec : ByteArray} {names : List ByteArray} {gen : Int} (hg : ∀ x ∈ g.b, 0 ≤ x ∧ x < 256) (h : (tailE g sec names gen).2.bad = false) :
    g.bad = false ∧ g.b = textP (tailE g sec names gen).1.key ++ (numP 6 (tailE g sec names gen).1.asked ++ (numP 6 (tailE g sec names gen).1.came ++ (numP 6 (tailE g sec names gen).1.status ++ (numP 2 ((tailE g sec names gen).1.fields.length : Int) ++ (fieldsB (tailE g sec names gen).1.fields ++ (textP (strOfNums (tailE g sec names gen).1.body) ++ (tailE g sec names gen).2.b)))))) := by
  unfold tailE at *
  simp only [] at *
  have k2 := text_rng2 hg
  have a2 := get_rng2 k2 6
  have c2 := get_rng2 a2 6
  have t2 := get_rng2 c2 6
  have n2 := get_rng2 t2 2
  have f2 := (fields_bnd ((((g.text.2.get 6).2.get 6).2.get 6).2.get 2).1.toNat n2).2.2
  obtain ⟨h1, e1⟩ := text_bad f2 h
  obtain ⟨h2, e2, e2'⟩ := fields_bad _ n2 h1
  obtain ⟨h3, e3⟩ := get_bad2 t2 h2
  obtain ⟨h4, e4⟩ := get_bad6 c2 h3
  obtain ⟨h5, e5⟩ := get_bad6 a2 h4
  obtain ⟨h6, e6⟩ := get_bad6 k2 h5
  obtain ⟨h7, e7⟩ := text_bad hg h6
  have hn0 : 0 ≤ ((((g.text.2.get 6).2.get 6).2.get 6).2.get 2).1 := (big_bound _ (bytes_rng t2 2)).1
  refine ⟨h7, e7.trans (congrArg (textP g.text.1 ++ ·) (e6.trans (congrArg (numP 6 _ ++ ·) (e5.trans (congrArg (numP 6 _ ++ ·) (e4.trans (congrArg (numP 6 _ ++ ·) (e3.trans ?_))))))))⟩
  unfold Rd.fieldsOf
  rw [strOf_bytes, e2', Int.toNat_of_nonneg hn0]
  exact congrArg (numP 2 _ ++ ·) (e2.trans (congrArg (fieldsB _ ++ ·) e1))
theorem entry_bad {r : Rd} {v : Int} (hv : 1 ≤ v ∧ v ≤ 3) (hr : ∀ x ∈ r.b, 0 ≤ x ∧ x < 256) (h : (r.entry v).2.bad = false) : r.bad = false ∧ r.b = restP v (r.entry v).1 ++ (r.entry v).2.b ∧ (v = 3 ∨ ((r.entry v).1.second.size = 0 ∧ (r.entry v).1.names.length = 0)) ∧ (v ≠ 1 ∨ (r.entry v).1.gen = 1) := by
  unfold restP headB genB
  rcases (by omega : v = 1 ∨ v = 2 ∨ v = 3) with rfl | rfl | rfl
  · rw [entry_one] at h ⊢
    obtain ⟨h1, e1⟩ := tail_bad hr h
    refine ⟨h1, ?_, .inr ⟨rfl, rfl⟩, .inr rfl⟩
    rw [if_neg (by decide), if_neg (by decide)]
    simp only [List.nil_append, List.append_assoc]
    exact e1
  · rw [entry_two] at h ⊢
    obtain ⟨h1, e1⟩ := tail_bad (get_rng2 hr 6) h
    obtain ⟨h2, e2⟩ := get_bad6 hr h1
    refine ⟨h2, ?_, .inr ⟨rfl, rfl⟩, .inl (by decide)⟩
    rw [if_neg (by decide), if_pos (by decide)]
    simp only [List.nil_append, List.append_assoc]
    exact e2.trans (congrArg (numP 6 _ ++ ·) e1)
  · rw [entry_three] at h ⊢
    have q1 := text_rng2 hr
    have q2 := get_rng2 q1 2
    have q3 := (texts_bnd (r.text.2.get 2).1.toNat q2).2.2
    have q4 := get_rng2 q3 6
    obtain ⟨h1, e1⟩ := tail_bad q4 h
    obtain ⟨h2, e2⟩ := get_bad6 q3 h1
    obtain ⟨h3, e3, e3'⟩ := texts_bad _ q2 h2
    obtain ⟨h4, e4⟩ := get_bad2 q1 h3
    obtain ⟨h5, e5⟩ := text_bad hr h4
    have hn0 : 0 ≤ (r.text.2.get 2).1 := (big_bound _ (bytes_rng q1 2)).1
    refine ⟨h5, ?_, .inl rfl, .inl (by decide)⟩
    rw [if_pos rfl, if_pos (by decide)]
    simp only [List.append_assoc]
    refine e5.trans (congrArg (textP _ ++ ·) (e4.trans ?_))
    show _ = numP 2 (((Rd.texts (r.text.2.get 2).1.toNat (r.text.2.get 2).2).1.length : Nat) : Int) ++ _
    rw [e3', Int.toNat_of_nonneg hn0]
    exact congrArg (numP 2 _ ++ ·) (e3.trans (congrArg (textsP _ ++ ·) (e2.trans (congrArg (numP 6 _ ++ ·) e1))))
/-- What is read is written as the same bytes. -/
theorem enc_dec {l : List Int} {x : PE} {v e : Int} (hl : ∀ c ∈ l, 0 ≤ c ∧ c < 256) (h : decP l = (x, v, e)) :
    (e = 0 ∧ l = recOf v (restP v x) ∧ fitsP x v = true ∧ (restP v x).length ≤ 3992 ∧ Bnd x) ∨ (e ≠ 0 ∧ x = zP ∧ v = 0) := by
  unfold decP at h
  have hd : ∀ x ∈ (Rd.mk (l.drop 2) false).b, 0 ≤ x ∧ x < 256 := fun x hx => hl x (List.mem_of_mem_drop hx)
  have hg1 := get_rng2 hd 2
  have hg := get_rng2 hg1 4
  by_cases c1 : l.length < 8 ∨ 4000 < l.length ∨ l.getD 0 0 ≠ 69
  · rw [if_pos c1] at h
    simp only [Prod.mk.injEq] at h
    right; exact ⟨by omega, h.1.symm, h.2.1.symm⟩
  · rw [if_neg c1] at h
    by_cases c2 : l.getD 1 0 < 1 ∨ 3 < l.getD 1 0
    · rw [if_pos c2] at h
      simp only [Prod.mk.injEq] at h
      right; exact ⟨by omega, h.1.symm, h.2.1.symm⟩
    · rw [if_neg c2] at h
      by_cases c3 : ((Rd.mk (l.drop 2) false).get 2).1 ≠ ((((Rd.mk (l.drop 2) false).get 2).2.get 4).2.b.length : Int)
      · rw [if_pos c3] at h
        simp only [Prod.mk.injEq] at h
        right; exact ⟨by omega, h.1.symm, h.2.1.symm⟩
      · rw [if_neg c3] at h
        by_cases c4 : (((Rd.mk (l.drop 2) false).get 2).2.get 4).1 ≠ sumP (((Rd.mk (l.drop 2) false).get 2).2.get 4).2.b
        · rw [if_pos c4] at h
          simp only [Prod.mk.injEq] at h
          right; exact ⟨by omega, h.1.symm, h.2.1.symm⟩
        · rw [if_neg c4] at h
          by_cases c5 : ((((Rd.mk (l.drop 2) false).get 2).2.get 4).2.entry (l.getD 1 0)).2.bad = true ∨ 0 < ((((Rd.mk (l.drop 2) false).get 2).2.get 4).2.entry (l.getD 1 0)).2.b.length
          · rw [if_pos c5] at h
            simp only [Prod.mk.injEq] at h
            right; exact ⟨by omega, h.1.symm, h.2.1.symm⟩
          · rw [if_neg c5] at h
            by_cases c6 : rightP ((((Rd.mk (l.drop 2) false).get 2).2.get 4).2.entry (l.getD 1 0)).1 = false
            · rw [if_pos c6] at h
              simp only [Prod.mk.injEq] at h
              right; exact ⟨by omega, h.1.symm, h.2.1.symm⟩
            · rw [if_neg c6] at h
              have hb := entry_bnd hg (l.getD 1 0)
              have hbad : ((((Rd.mk (l.drop 2) false).get 2).2.get 4).2.entry (l.getD 1 0)).2.bad = false := by
                cases hq : ((((Rd.mk (l.drop 2) false).get 2).2.get 4).2.entry (l.getD 1 0)).2.bad
                · rfl
                · exact absurd (.inl hq) c5
              have hend : ((((Rd.mk (l.drop 2) false).get 2).2.get 4).2.entry (l.getD 1 0)).2.b = [] := List.length_eq_zero_iff.1 (by omega)
              obtain ⟨b1, b2, b3, b4⟩ := entry_bad (by omega) hg hbad
              obtain ⟨b5, b6⟩ := get_bad4 hg1 b1
              obtain ⟨b7, b8⟩ := get_bad2 hd b5
              rw [hend, List.append_nil] at b2
              simp only [Prod.mk.injEq] at h
              obtain ⟨hx, hv, he⟩ := h
              rw [hx] at b2 b3 b4 hb c6
              rw [hv] at b2 b3 b4
              have c3 := Classical.not_not.1 c3
              have c4 := Classical.not_not.1 c4
              rw [c4, b2] at b6
              rw [c3, b2] at b8
              have hld : l = [69, v % 256] ++ l.drop 2 := by
                have h69 : l.getD 0 0 = 69 := Classical.not_not.1 (fun hh => c1 (.inr (.inr hh)))
                have hvv : v % 256 = l.getD 1 0 := by omega
                rw [hvv, ← h69]
                match l, (show 2 ≤ l.length by omega) with
                | a :: b :: l', _ => rfl
              have hall : l = recOf v (restP v x) := by
                unfold recOf
                rw [hld]
                simp only [List.append_assoc]
                congr 1
                rw [show l.drop 2 = (Rd.mk (l.drop 2) false).b from rfl, b8, b6]
              left
              refine ⟨he.symm, hall, ?_, ?_, hb⟩
              · unfold fitsP
                rw [show rightP x = true from by cases hq : rightP x; exact absurd hq c6; rfl]
                simp only [Bool.true_and, Bool.and_eq_true, decide_eq_true_eq]
                exact ⟨⟨by omega, b3⟩, b4⟩
              · have : l.length = 8 + (restP v x).length := by
                  rw [hall]; unfold recOf; simp only [List.length_append, numP_length, List.length_cons, List.length_nil]; try omega
                omega
end Go.Proofs.YtllnleokjcimhaaDoor.Pure
