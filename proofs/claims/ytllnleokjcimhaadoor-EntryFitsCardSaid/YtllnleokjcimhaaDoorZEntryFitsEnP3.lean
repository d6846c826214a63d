import Derived.Test.YtllnleokjcimhaaDoorZEntryFitsEnP2
/-
The plain law, part 3: an entry's record.
-/
namespace Go.Proofs.YtllnleokjcimhaaDoor.Pure
open Go.RowKit Go.Proofs.YtllnleokjcimhaaDoor.P Go.Proofs.YtllnleokjcimhaaDoor.En Go.Proofs.YtllnleokjcimhaaDoorW.PrintWords Go.Proofs.YtllnleokjcimhaaDoorW.PrintLast Go.Proofs.YtllnleokjcimhaaDoorW.PrintMore
set_option linter.unusedVariables false
set_option linter.unusedSimpArgs false
def fieldsB (l : List (ByteArray × ByteArray)) : List Int := l.flatMap fun p => textP p.1 ++ textP p.2
theorem fieldsB_cons (p : ByteArray × ByteArray) (l : List (ByteArray × ByteArray)) : fieldsB (p :: l) = textP p.1 ++ textP p.2 ++ fieldsB l := List.flatMap_cons
theorem fieldsB_length (l : List (ByteArray × ByteArray)) {B : Nat} (h : ∀ p ∈ l, p.1.size ≤ B ∧ p.2.size ≤ B) : (fieldsB l).length ≤ l.length * (2 * B + 4) := by
  induction l with
  | nil => simp [fieldsB]
  | cons p l ih =>
    have h1 := h p (List.mem_cons_self ..)
    have h2 := ih (fun q hq => h q (List.mem_cons_of_mem _ hq))
    rw [fieldsB_cons, List.length_append, List.length_append, textP_length, textP_length, List.length_cons, Nat.add_mul]
    omega
theorem textsP_len (l : List ByteArray) {B : Nat} (h : ∀ p ∈ l, p.size ≤ B) : (textsP l).length ≤ l.length * (B + 2) := by
  induction l with
  | nil => simp [textsP]
  | cons p l ih =>
    have h1 := h p (List.mem_cons_self ..)
    have h2 := ih (fun q hq => h q (List.mem_cons_of_mem _ hq))
    rw [textsP_cons, List.length_append, textP_length, List.length_cons, Nat.add_mul]
    omega
theorem bytesOf_rng (s : ByteArray) : ∀ c ∈ bytesOf s, 0 ≤ c ∧ c < 256 := by
  intro c hc
  obtain ⟨b, _, rfl⟩ := List.mem_map.1 hc
  have := b.toNat_lt
  omega
theorem rng_app {a b : List Int} (ha : ∀ c ∈ a, 0 ≤ c ∧ c < 256) (hb : ∀ c ∈ b, 0 ≤ c ∧ c < 256) : ∀ c ∈ a ++ b, 0 ≤ c ∧ c < 256 := by
  intro c hc
  rcases List.mem_append.1 hc with h | h
  · exact ha c h
  · exact hb c h
theorem textP_rng (s : ByteArray) : ∀ c ∈ textP s, 0 ≤ c ∧ c < 256 := rng_app (numP_rng _ _) (bytesOf_rng s)
theorem textsP_rng (l : List ByteArray) : ∀ c ∈ textsP l, 0 ≤ c ∧ c < 256 := by
  intro c hc
  obtain ⟨s, _, h⟩ := List.mem_flatMap.1 hc
  exact textP_rng s c h
theorem fieldsB_rng (l : List (ByteArray × ByteArray)) : ∀ c ∈ fieldsB l, 0 ≤ c ∧ c < 256 := by
  intro c hc
  obtain ⟨s, _, h⟩ := List.mem_flatMap.1 hc
  exact rng_app (textP_rng _) (textP_rng _) c h
theorem strOfNums_size' (l : List Int) : (strOfNums l).size = l.length := strOfNums_size l
/-- What goes ahead of the key. -/
def headB (v : Int) (x : PE) : List Int := if v = 3 then textP x.second ++ (numP 2 (x.names.length : Int) ++ textsP x.names) else []
def genB (v : Int) (x : PE) : List Int := if 1 < v then numP 6 x.gen else []
def restP (v : Int) (x : PE) : List Int := headB v x ++ (genB v x ++ (textP x.key ++ (numP 6 x.asked ++ (numP 6 x.came ++ (numP 6 x.status ++ (numP 2 (x.fields.length : Int) ++ (fieldsB x.fields ++ textP (strOfNums x.body))))))))
def recOf (v : Int) (r : List Int) : List Int := [69, v % 256] ++ numP 2 (r.length : Int) ++ numP 4 (sumP r) ++ r
def encP (v : Int) (x : PE) : List Int × Int := if v < 1 ∨ 3 < v then ([], 50) else if rightP x = false then ([], 10) else if fitsP x v = false then ([], 51) else if 3992 < (restP v x).length then ([], 23) else (recOf v (restP v x), 0)
theorem headB_rng (v : Int) (x : PE) : ∀ c ∈ headB v x, 0 ≤ c ∧ c < 256 := by
  unfold headB
  split
  · exact rng_app (textP_rng _) (rng_app (numP_rng _ _) (textsP_rng _))
  · intro c hc; cases hc
theorem genB_rng (v : Int) (x : PE) : ∀ c ∈ genB v x, 0 ≤ c ∧ c < 256 := by
  unfold genB
  split
  · exact numP_rng _ _
  · intro c hc; cases hc
theorem restP_rng (v : Int) (x : PE) : ∀ c ∈ restP v x, 0 ≤ c ∧ c < 256 :=
  rng_app (headB_rng v x) (rng_app (genB_rng v x) (rng_app (textP_rng _) (rng_app (numP_rng _ _) (rng_app (numP_rng _ _) (rng_app (numP_rng _ _) (rng_app (numP_rng _ _) (rng_app (fieldsB_rng _) (textP_rng _))))))))
theorem headB_len (v : Int) (x : PE) (h : Bnd x) : (headB v x).length ≤ 5000000000 := by
  unfold headB
  split
  · have h1 := textsP_len x.names h.name
    have h2 := h.names
    have h3 := h.second
    have h4 : x.names.length * (70000 + 2) ≤ 70000 * 70002 := Nat.mul_le_mul h2 (Nat.le_refl _)
    rw [List.length_append, List.length_append, textP_length, numP_length]
    omega
  · simp
theorem fieldsB_len (x : PE) (h : Bnd x) : (fieldsB x.fields).length ≤ 10000000000 := by
  have h1 := fieldsB_length x.fields (B := 70000) (fun p hp => h.field p hp)
  have h2 := h.fields
  have h4 : x.fields.length * (2 * 70000 + 4) ≤ 70000 * 140004 := Nat.mul_le_mul h2 (Nat.le_refl _)
  omega
/-- Numbers that a right entry has. -/
theorem rightP_nums {x : PE} (h : rightP x = true) : (1 ≤ x.key.size ∧ x.key.size ≤ 1200 ∧ x.second.size ≤ 600) ∧ namesP x.names = true ∧ (0 ≤ x.asked ∧ x.asked ≤ 253402300799 ∧ 0 ≤ x.came ∧ x.came ≤ 253402300799 ∧ 200 ≤ x.status ∧ x.status ≤ 599) ∧ fieldsP x.fields = true ∧ (x.body.length ≤ 2048 ∧ 1 ≤ x.gen ∧ x.gen ≤ 253402300799) := by
  unfold rightP at h
  simp only [Bool.and_eq_true, decide_eq_true_eq] at h
  exact ⟨h.1.1.1.1, h.1.1.1.2, h.1.1.2, h.1.2, h.2⟩
/-! ### the program's -/
def encT (k : Nat) (v : Int) (t185 : List Int) : Option (List Int × Int) := if (t185.length : Int) > 3992 then (some (([] : List Int), 23)) else ((entry_put.f k (([69, (v) % 256] : List Int)) 2 (([(t185.length : Int)] : List Int))).bind fun t194 => ((entry_sum.f k t185).bind fun t197 => ((entry_put.f k t194 4 (([t197] : List Int))).bind fun t201 => (if t201.length + t185.length < 140737488355328 then (some ((t201 ++ t185), 0)) else (none)))))
theorem putP_one (s : Nat) (n : Int) : putP s [n] = numP s n := by simp [putP]
theorem encT_ev (v : Int) (r : List Int) (hl : r.length ≤ 30000000000) (hr : ∀ c ∈ r, 0 ≤ c ∧ c < 256) : Ev (fun k => encT k v r) (if 3992 < r.length then ([], 23) else (recOf v r, 0)) := by
  unfold encT
  by_cases c : (r.length : Int) > 3992
  · rw [if_pos (by omega)]
    exact ev_now fun k => by rw [if_pos c]
  · rw [if_neg (by omega)]
    have h1 := put_ev 2 (by omega) [(r.length : Int)] (by simp) [69, v % 256] (by simp)
    have h2 := put_ev 4 (by omega) [sumP r] (by simp) ([69, v % 256] ++ numP 2 (r.length : Int)) (by simp [numP_length])
    rw [putP_one] at h1 h2
    refine ev_eq _ (ev_bind h1 (ev_bind (sum_ev r (by omega) hr) (ev_bind h2 (ev_now fun k => ?_)))) fun k => by rw [if_neg c]; rfl
    rw [if_pos (by simp only [List.length_append, numP_length, List.length_cons, List.length_nil]; omega)]
    rfl
theorem enc_loop (v : Int) (x : PE) (h : Bnd x) (l : List (ByteArray × ByteArray)) (hl : ∀ p ∈ l, p.1.size ≤ 70000 ∧ p.2.size ≤ 70000) (hn : l.length ≤ 70000) (r : List Int × Int) (m : Nat) : ∀ (j : Nat) (b : List Int), j + m = l.length → b.length + (fieldsB (l.drop j)).length ≤ 25000000000 →
    Ev (fun k => encT k v (b ++ fieldsB (l.drop j) ++ textP (strOfNums x.body))) r →
    Ev (fun k => entry_Encode.l0 k v b (flds l) (l.length : Int) (j : Int) x.key x.second x.names x.asked x.came x.status (flds x.fields) x.body x.gen) r := by
  have hlen : (flds l).length = l.length := by simp [flds]
  have hb5 := h.body
  induction m with
  | zero =>
    intro j b hj hb hr
    rw [List.drop_of_length_le (by omega)] at hr hb
    have e0 : fieldsB [] = [] := rfl
    rw [e0, List.append_nil] at hr
    have h3 := texts_ev [strOfNums x.body] (by simp) b (by rw [textsP_cons]; simp only [List.length_append, textP_length, strOfNums_size', textsP, List.flatMap_nil, List.length_nil]; omega)
    have e1 : textsP [strOfNums x.body] = textP (strOfNums x.body) := by rw [textsP_cons]; simp [textsP]
    rw [e1] at h3
    refine ev_to (fun k => (entry_texts.f k b [strOfNums x.body]).bind fun t => encT k v t) (ev_bind h3 hr) fun k => ?_
    show entry_Encode.l0 (k + 1) v b _ _ _ _ _ _ _ _ _ _ _ _ = _
    rw [entry_Encode.l0, if_neg (by omega)]
    rfl
  | succ m ih =>
    intro j b hj hb hr
    have hlt : j < l.length := by omega
    have h1 := hl l[j] (List.getElem_mem hlt)
    rw [List.drop_eq_getElem_cons hlt, fieldsB_cons] at hr hb
    simp only [List.length_append, textP_length] at hb
    have h3 := texts_ev [l[j].1, l[j].2] (by simp) b (by simp only [textsP, List.flatMap_cons, List.flatMap_nil, List.length_append, textP_length, List.length_nil]; omega)
    have e1 : textsP [l[j].1, l[j].2] = textP l[j].1 ++ textP l[j].2 := by simp [textsP]
    rw [e1] at h3
    have h4 := ih (j + 1) (b ++ (textP l[j].1 ++ textP l[j].2)) (by omega) (by simp only [List.length_append, textP_length]; omega) (by
      simp only [List.append_assoc] at hr ⊢; exact hr)
    refine ev_to (fun k => (entry_texts.f k b [l[j].1, l[j].2]).bind fun t => entry_Encode.l0 k v t (flds l) (l.length : Int) ((j + 1 : Nat) : Int) x.key x.second x.names x.asked x.came x.status (flds x.fields) x.body x.gen) (ev_bind h3 h4) fun k => ?_
    show entry_Encode.l0 (k + 1) v b _ _ _ _ _ _ _ _ _ _ _ _ = _
    have e : rd_T53 (flds l) (j : Int) = ⟨l[j].1, l[j].2⟩ := by
      unfold rd_T53 flds
      rw [Int.toNat_natCast, List.getD_eq_getElem?_getD, List.getElem?_map, List.getElem?_eq_getElem hlt]; rfl
    rw [entry_Encode.l0, if_pos (by omega), if_pos (by omega), if_pos (by omega), e, wrap_id (by omega) (by omega)]
    rfl
theorem enc_j2 (v : Int) (x : PE) (h : Bnd x) (hr : rightP x = true) (b : List Int) (hb : b.length ≤ 6000000000) (hg : ∀ c ∈ b, 0 ≤ c ∧ c < 256) (r : List Int) (hrr : r = b ++ (textP x.key ++ (numP 6 x.asked ++ (numP 6 x.came ++ (numP 6 x.status ++ (numP 2 (x.fields.length : Int) ++ (fieldsB x.fields ++ textP (strOfNums x.body)))))))) :
    Ev (fun k => entry_Encode.j2 k v b x.key x.second x.names x.asked x.came x.status (flds x.fields) x.body x.gen) (if 3992 < r.length then ([], 23) else (recOf v r, 0)) := by
  have hlen : (flds x.fields).length = x.fields.length := by simp [flds]
  have l3 := fieldsB_len x h
  have l4 := h.key
  have l5 := h.body
  have l6 := h.fields
  have hrl : r.length ≤ 30000000000 := by
    rw [hrr]; simp only [List.length_append, textP_length, numP_length, strOfNums_size']; omega
  have hrg : ∀ c ∈ r, 0 ≤ c ∧ c < 256 := by
    rw [hrr]
    exact rng_app hg (rng_app (textP_rng _) (rng_app (numP_rng _ _) (rng_app (numP_rng _ _) (rng_app (numP_rng _ _) (rng_app (numP_rng _ _) (rng_app (fieldsB_rng _) (textP_rng _)))))))
  have e1 : textsP [x.key] = textP x.key := by simp [textsP]
  have h1 := texts_ev [x.key] (by simp) b (by rw [e1, textP_length]; omega)
  rw [e1] at h1
  have h2 := put_ev 6 (by omega) [x.asked, x.came, x.status] (by simp) (b ++ textP x.key) (by simp only [List.length_append, textP_length, List.length_cons, List.length_nil]; omega)
  have e2 : putP 6 [x.asked, x.came, x.status] = numP 6 x.asked ++ (numP 6 x.came ++ numP 6 x.status) := by simp [putP]
  rw [e2] at h2
  have h3 := put_ev 2 (by omega) [(x.fields.length : Int)] (by simp) (b ++ textP x.key ++ (numP 6 x.asked ++ (numP 6 x.came ++ numP 6 x.status))) (by simp only [List.length_append, textP_length, numP_length, List.length_cons, List.length_nil]; omega)
  rw [putP_one] at h3
  have h4 := enc_loop v x h x.fields h.field l6 (if 3992 < r.length then ([], 23) else (recOf v r, 0)) x.fields.length 0 (b ++ textP x.key ++ (numP 6 x.asked ++ (numP 6 x.came ++ numP 6 x.status)) ++ numP 2 (x.fields.length : Int)) (by omega) (by
    rw [List.drop_zero]; simp only [List.length_append, textP_length, numP_length]; omega) (by
    have : b ++ textP x.key ++ (numP 6 x.asked ++ (numP 6 x.came ++ numP 6 x.status)) ++ numP 2 (x.fields.length : Int) ++ fieldsB (x.fields.drop 0) ++ textP (strOfNums x.body) = r := by
      rw [hrr, List.drop_zero]; simp only [List.append_assoc]
    rw [this]
    exact encT_ev v r hrl hrg)
  refine ev_to (fun k => (entry_texts.f k b [x.key]).bind fun t159 => (entry_put.f k t159 6 [x.asked, x.came, x.status]).bind fun t165 => (entry_put.f k t165 2 [(x.fields.length : Int)]).bind fun t171 => entry_Encode.l0 k v t171 (flds x.fields) (x.fields.length : Int) 0 x.key x.second x.names x.asked x.came x.status (flds x.fields) x.body x.gen) (ev_bind h1 (ev_bind h2 (ev_bind h3 h4))) fun k => ?_
  show entry_Encode.j2 (k + 1) v b _ _ _ _ _ _ _ _ _ = _
  rw [entry_Encode.j2, hlen]
theorem enc_j1 (v : Int) (x : PE) (h : Bnd x) (hr : rightP x = true) (b : List Int) (hb : b.length ≤ 5000000000) (hg : ∀ c ∈ b, 0 ≤ c ∧ c < 256) (r : List Int) (hrr : r = b ++ (genB v x ++ (textP x.key ++ (numP 6 x.asked ++ (numP 6 x.came ++ (numP 6 x.status ++ (numP 2 (x.fields.length : Int) ++ (fieldsB x.fields ++ textP (strOfNums x.body))))))))) :
    Ev (fun k => entry_Encode.j1 k v b x.key x.second x.names x.asked x.came x.status (flds x.fields) x.body x.gen) (if 3992 < r.length then ([], 23) else (recOf v r, 0)) := by
  unfold genB at hrr
  by_cases c : 1 < v
  · rw [if_pos c, ← List.append_assoc] at hrr
    have h1 := put_ev 6 (by omega) [x.gen] (by simp) b (by simp only [List.length_cons, List.length_nil]; omega)
    rw [putP_one] at h1
    refine ev_to _ (ev_bind (f := fun k t153 => entry_Encode.j2 k v t153 x.key x.second x.names x.asked x.came x.status (flds x.fields) x.body x.gen) h1 (enc_j2 v x h hr (b ++ numP 6 x.gen) (by rw [List.length_append, numP_length]; omega) (rng_app hg (numP_rng _ _)) r hrr)) fun k => ?_
    show entry_Encode.j1 (k + 1) v b _ _ _ _ _ _ _ _ _ = _
    rw [entry_Encode.j1, if_pos c]; rfl
  · rw [if_neg c, List.nil_append] at hrr
    refine ev_to _ (enc_j2 v x h hr b (by omega) hg r hrr) fun k => ?_
    show entry_Encode.j1 (k + 1) v b _ _ _ _ _ _ _ _ _ = _
    rw [entry_Encode.j1, if_neg c]
theorem enc_j0 (v : Int) (x : PE) (h : Bnd x) (bad : Bool) : Ev (fun k => entry_Encode.j0 k v bad x.key x.second x.names x.asked x.came x.status (flds x.fields) x.body x.gen) (if bad = true then ([], 50) else if rightP x = false then ([], 10) else if fitsP x v = false then ([], 51) else if 3992 < (restP v x).length then ([], 23) else (recOf v (restP v x), 0)) := by
  cases bad with
  | true =>
    refine ev_one fun k => ?_
    show entry_Encode.j0 (k + 1) v _ _ _ _ _ _ _ _ _ _ = _
    rw [entry_Encode.j0, if_pos rfl, if_pos rfl]
  | false =>
    rw [if_neg (by decide)]
    obtain ⟨K1, h1⟩ := right_ev x h
    obtain ⟨K2, h2⟩ := fits_ev x v h
    have E : ∀ k, K1 + K2 ≤ k → entry_Encode.j0 (k + 1) v false x.key x.second x.names x.asked x.came x.status (flds x.fields) x.body x.gen = if rightP x = true then (if fitsP x v = true then (if v = 3 then ((entry_texts.f k ([] : List Int) (([x.second] : List ByteArray))).bind fun t138 => ((entry_put.f k t138 2 (([(x.names.length : Int)] : List Int))).bind fun t144 => ((entry_texts.f k t144 x.names).bind fun t147 => (entry_Encode.j1 k v t147 x.key x.second x.names x.asked x.came x.status (flds x.fields) x.body x.gen)))) else (entry_Encode.j1 k v ([] : List Int) x.key x.second x.names x.asked x.came x.status (flds x.fields) x.body x.gen)) else some (([] : List Int), 51)) else some (([] : List Int), 10) := by
      intro k hk
      have h1 : entry_Entry_Right.f k x.key x.second x.names x.asked x.came x.status (flds x.fields) x.body x.gen = _ := h1 k (by omega)
      have h2 : entry_Entry_Fits.f k x.key x.second x.names x.asked x.came x.status (flds x.fields) x.body x.gen v = _ := h2 k (by omega)
      rw [entry_Encode.j0, if_neg (by decide), h1, h2, Option.bind_some, Option.bind_some]
    have conn : ∀ (f : Nat → Option (List Int × Int)) (r : List Int × Int), Ev f r → (∀ k, entry_Encode.j0 (k + 1) v false x.key x.second x.names x.asked x.came x.status (flds x.fields) x.body x.gen = f k ∨ k < K1 + K2) → Ev (fun k => entry_Encode.j0 k v false x.key x.second x.names x.asked x.came x.status (flds x.fields) x.body x.gen) r := by
      intro f r hf he
      obtain ⟨K, hf⟩ := hf
      refine ⟨K + K1 + K2 + 1, fun k hk => ?_⟩
      obtain ⟨k, rfl⟩ : ∃ n, k = n + 1 := ⟨k - 1, by omega⟩
      rcases he k with e | e
      · exact e.trans (hf k (by omega))
      · omega
    cases hrt : rightP x with
    | false =>
      rw [if_pos rfl]
      refine conn _ _ (ev_now (g := fun _ => some (([] : List Int), (10 : Int))) fun k => rfl) fun k => ?_
      by_cases hk : k < K1 + K2
      · exact .inr hk
      · left; rw [E k (by omega), hrt, if_neg (by decide)]
    | true =>
      rw [if_neg (by decide)]
      cases hft : fitsP x v with
      | false =>
        rw [if_pos rfl]
        refine conn _ _ (ev_now (g := fun _ => some (([] : List Int), (51 : Int))) fun k => rfl) fun k => ?_
        by_cases hk : k < K1 + K2
        · exact .inr hk
        · left; rw [E k (by omega), hrt, hft, if_pos rfl, if_neg (by decide)]
      | true =>
        rw [if_neg (by decide)]
        have l7 := h.names
        have l8 := h.second
        have hhl := headB_len v x h
        have hhr := headB_rng v x
        by_cases c : v = 3
        · have l9 : (textP x.second ++ (numP 2 (x.names.length : Int) ++ textsP x.names)).length ≤ 5000000000 := by
            have := hhl; unfold headB at this; rw [if_pos c] at this; exact this
          simp only [List.length_append, textP_length, numP_length] at l9
          have e1 : textsP [x.second] = textP x.second := by simp [textsP]
          have h1 := texts_ev [x.second] (by simp) [] (by rw [e1, textP_length]; simp; omega)
          rw [e1, List.nil_append] at h1
          have h2 := put_ev 2 (by omega) [(x.names.length : Int)] (by simp) (textP x.second) (by rw [textP_length]; simp; omega)
          rw [putP_one] at h2
          have h3 := texts_ev x.names (by omega) (textP x.second ++ numP 2 (x.names.length : Int)) (by simp only [List.length_append, textP_length, numP_length]; omega)
          have h4 := enc_j1 v x h hrt (textP x.second ++ numP 2 (x.names.length : Int) ++ textsP x.names) (by simp only [List.length_append, textP_length, numP_length]; omega) (rng_app (rng_app (textP_rng _) (numP_rng _ _)) (textsP_rng _)) (restP v x) (by
            unfold restP headB; rw [if_pos c]; simp only [List.append_assoc])
          refine conn (fun k => (entry_texts.f k ([] : List Int) (([x.second] : List ByteArray))).bind fun t138 => ((entry_put.f k t138 2 (([(x.names.length : Int)] : List Int))).bind fun t144 => ((entry_texts.f k t144 x.names).bind fun t147 => (entry_Encode.j1 k v t147 x.key x.second x.names x.asked x.came x.status (flds x.fields) x.body x.gen)))) _ (ev_bind h1 (ev_bind h2 (ev_bind h3 h4))) fun k => ?_
          by_cases hk : k < K1 + K2
          · exact .inr hk
          · left; rw [E k (by omega), hrt, hft, if_pos rfl, if_pos rfl, if_pos c]
        · have h4 := enc_j1 v x h hrt [] (by simp) (fun c hc => by cases hc) (restP v x) (by unfold restP headB; rw [if_neg c])
          refine conn _ _ h4 fun k => ?_
          by_cases hk : k < K1 + K2
          · exact .inr hk
          · left; rw [E k (by omega), hrt, hft, if_pos rfl, if_pos rfl, if_neg c]
/-- What Encode tells. -/
theorem enc_ev (v : Int) (x : PE) (h : Bnd x) : Ev (fun k => entry_Encode.f k v x.key x.second x.names x.asked x.came x.status (flds x.fields) x.body x.gen) (encP v x) := by
  unfold encP
  by_cases c1 : v < 1
  · rw [if_pos (.inl c1)]
    exact ev_eq _ (ev_rw (enc_j0 v x h true) (if_pos rfl)) fun k => by show entry_Encode.f k v _ _ _ _ _ _ _ _ _ = _; rw [entry_Encode.f, if_pos c1]
  · by_cases c2 : 3 < v
    · rw [if_pos (.inr c2)]
      exact ev_eq _ (ev_rw (enc_j0 v x h true) (if_pos rfl)) fun k => by show entry_Encode.f k v _ _ _ _ _ _ _ _ _ = _; rw [entry_Encode.f, if_neg c1, decide_eq_true c2]
    · rw [if_neg (by omega)]
      exact ev_eq _ (ev_rw (enc_j0 v x h false) (if_neg (by decide))) fun k => by show entry_Encode.f k v _ _ _ _ _ _ _ _ _ = _; rw [entry_Encode.f, if_neg c1, decide_eq_false c2]
end Go.Proofs.YtllnleokjcimhaaDoor.Pure
