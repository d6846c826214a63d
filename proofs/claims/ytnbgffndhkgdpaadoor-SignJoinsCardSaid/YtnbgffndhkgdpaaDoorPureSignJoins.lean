/-
The law SignJoins: elements without commas and quotes, joined with commas and blanks, are read again; but empty ones.
-/
import Derived.Test.YtnbgffndhkgdpaaDoorPureList
import Derived.Test.YtnbgffndhkgdpaaDoorPureAnchor01
import Derived.Test.YtnbgffndhkgdpaaDoorPx5
namespace Go.Proofs.YtnbgffndhkgdpaaDoor.Pure
open Go.RowKit Go.Proofs.YtnbgffndhkgdpaaDoor.P Go.Proofs.YtnbgffndhkgdpaaDoorW.PrintWords Go.Proofs.YtnbgffndhkgdpaaDoorW.PrintLast Go.Proofs.YtnbgffndhkgdpaaDoorW.PrintMore
set_option linter.unusedVariables false
set_option linter.unusedSimpArgs false

theorem trimB_blanks (l : List UInt8) : trimB (32 :: 9 :: l) = trimB l := by
  unfold trimB; rw [trimL_cons, if_pos (by decide), trimL_cons, if_pos (by decide)]
theorem elems_plain (x : List UInt8) (h : ∀ c ∈ x, c ≠ 34 ∧ c ≠ 44) : elems x = keep [x] := by
  unfold elems; rw [segs_one x h]; rfl
theorem keep_one (x : List UInt8) : keep [x] = if (trimB x).isEmpty then [] else [mkb (trimB x)] := by rw [keep_cons, keep_nil]
theorem chars_loop (bl : List Int) (S : ByteArray) (want l : List ByteArray) (i n : Int) (e : ByteArray) (he : e.size ≤ 100)
    (hK : (∀ c ∈ e.data.toList, c ≠ 34 ∧ c ≠ 44) → Ev (fun k => if i > 0 then (if S.size + 1 ≤ 9223372036854775807 then (pantrylaw01_SignJoins.j2 k bl (S ++ (⟨#[44]⟩ : ByteArray)) want i e l n i) else (none)) else (pantrylaw01_SignJoins.j2 k bl S want i e l n i)) true)
    (r : List UInt8) : ∀ (m : List UInt8) j, e.data.toList = m ++ r → (∀ c ∈ m, c ≠ 34 ∧ c ≠ 44) → Sfx e j r → Ev (fun k => pantrylaw01_SignJoins.l1 k bl S want i e l n i (e.size : Int) j) true := by
  induction r with
  | nil =>
    intro m j hm hq h
    rw [List.append_nil] at hm
    refine ev_to _ (hK (by rw [hm]; exact hq)) fun k => ?_
    simp only [pantrylaw01_SignJoins.l1]; rw [if_neg h.stop]
  | cons c r ih =>
    intro m j hm hq h
    by_cases h44 : c = 44
    · refine ev_one fun k => ?_
      simp only [pantrylaw01_SignJoins.l1]; rw [if_pos h.lt, if_pos h.ge, if_pos h.lt, h.bt, if_pos ((c44 c).2 h44)]
    · by_cases h34 : c = 34
      · refine ev_one fun k => ?_
        simp only [pantrylaw01_SignJoins.l1]; rw [if_pos h.lt, if_pos h.ge, if_pos h.lt, h.bt, if_neg (fun x => h44 ((c44 c).1 x)), if_pos ((e34 c).2 h34)]
      · refine ev_to _ (ih (m ++ [c]) (j + 1) (by rw [hm]; simp) (fun x hx => by rcases List.mem_append.1 hx with hx | hx; exact hq x hx; simp at hx; rw [hx]; exact ⟨h34, h44⟩) h.next) fun k => ?_
        simp only [pantrylaw01_SignJoins.l1]; rw [if_pos h.lt, if_pos h.ge, if_pos h.lt, h.bt, if_neg (fun x => h44 ((c44 c).1 x)), if_neg (fun x => h34 ((e34 c).1 x)), h.wrap (by omega)]
theorem joins_loop (bl : List Int) (hbl : bl.length ≤ 9223372036854775807) (l : List ByteArray) (hl : l.length ≤ 40) (n : Nat) : ∀ (i : Nat) (S : ByteArray) (want : List ByteArray), i + n = l.length → elems S.data.toList = want → (∀ c ∈ S.data.toList, c ≠ 34) → S.size ≤ 103 * i → (i = 0 → S.data.toList = []) → want.length ≤ i →
    Ev (fun k => pantrylaw01_SignJoins.l0 k bl S want l (l.length : Int) (i : Int)) true := by
  induction n with
  | zero =>
    intro i S want hi he hq hs h0 hw
    refine ev_to (fun k => (sign_List.f k S).bind fun t154 => ((pantrylaw01_same.f k t154 want).bind fun t157 => (some t157))) ?_ fun k => by
      simp only [pantrylaw01_SignJoins.l0]; rw [if_neg (by omega)]
    refine ev_bind (list_sign S (by omega)) ?_
    rw [he]
    refine ev_bind (same_refl want (by omega)) ?_
    exact ev_now fun k => rfl
  | succ n ih =>
    intro i S want hi he hq hs h0 hw
    have hlt : i < l.length := by omega
    have hei : rdOf ByteArray.empty l (i : Int) = l[i] := by
      unfold rdOf; rw [Int.toNat_natCast, List.getD_eq_getElem?_getD, List.getElem?_eq_getElem hlt]; rfl
    have hwi : wrap64 ((i : Int) + 1) = ((i + 1 : Nat) : Int) := by rw [wrap_id (by omega) (by omega)]; omega
    generalize l[i] = e at hei
    by_cases hbig : (e.size : Int) > 100
    · refine ev_one fun k => ?_
      simp only [pantrylaw01_SignJoins.l0]; rw [if_pos (by omega), if_pos (by omega), if_pos (by omega), hei, if_pos hbig]
    refine ev_to (fun k => pantrylaw01_SignJoins.l1 k bl S want (i : Int) e l (l.length : Int) (i : Int) (e.size : Int) 0) ?_ fun k => by
      simp only [pantrylaw01_SignJoins.l0]; rw [if_pos (by omega), if_pos (by omega), if_pos (by omega), hei, if_neg hbig]
    refine chars_loop bl S want l i l.length e (by omega) (fun hch => ?_) e.data.toList [] 0 rfl (by simp) (Sfx.start e)
    have htr := trim_ref e (by omega)
    -- behind the comma: S1
    have step3 : ∀ (S1 : ByteArray) (flag : Bool), S1.size ≤ S.size + 1 → (∀ c ∈ S1.data.toList, c ≠ 34) →
        (∀ x : List UInt8, (∀ c ∈ x, c ≠ 34 ∧ c ≠ 44) → elems (S1.data.toList ++ x) = want ++ keep [x]) →
        Ev (fun k => pantrylaw01_SignJoins.j3 k bl S1 want e l (l.length : Int) (i : Int) flag) true := by
      intro S1 flag hs1 hq1 hx1
      have go : ∀ (S2 : ByteArray), (S2.data.toList = S1.data.toList ++ e.data.toList ∨ S2.data.toList = S1.data.toList ++ (32 :: 9 :: e.data.toList)) →
          Ev (fun k => (pantryref01_Trim.f k e).bind fun t160 => (if t160.toList = ([] : List UInt8) then (pantrylaw01_SignJoins.l0 k bl S2 want l (l.length : Int) (wrap64 ((i : Int) + 1))) else (if want.length < 8796093022208 then (pantrylaw01_SignJoins.l0 k bl S2 (want ++ [t160]) l (l.length : Int) (wrap64 ((i : Int) + 1))) else (none)))) true := by
        intro S2 h2
        have hes : e.data.toList.length = e.size := (sz e).symm
        have hS1s : S1.data.toList.length = S1.size := (sz S1).symm
        have hel : elems S2.data.toList = want ++ keep [e.data.toList] := by
          rcases h2 with h2 | h2
          · rw [h2, hx1 _ hch]
          · rw [h2, hx1 _ (by intro c hc; simp only [List.mem_cons] at hc; rcases hc with rfl | rfl | hc; decide; decide; exact hch c hc), keep_one, keep_one, trimB_blanks]
        have hq2 : ∀ c ∈ S2.data.toList, c ≠ 34 := by
          intro c hc
          rcases h2 with h2 | h2
          · rw [h2] at hc; rcases List.mem_append.1 hc with hc | hc; exact hq1 c hc; exact (hch c hc).1
          · rw [h2] at hc; rcases List.mem_append.1 hc with hc | hc; exact hq1 c hc; simp only [List.mem_cons] at hc; rcases hc with rfl | rfl | hc; decide; decide; exact (hch c hc).1
        have hs2 : S2.size ≤ 103 * (i + 1) := by
          rw [sz]
          rcases h2 with h2 | h2
          · rw [h2, List.length_append]; omega
          · rw [h2, List.length_append]; simp; omega
        rw [keep_one] at hel
        refine ev_bind htr ?_
        by_cases hem : (trimB e.data.toList).isEmpty = true
        · rw [if_pos hem, List.append_nil] at hel
          refine ev_eq _ (ih (i + 1) S2 want (by omega) hel hq2 hs2 (by omega) (by omega)) fun k => ?_
          rw [if_pos (by rw [tl, mk_data]; exact List.isEmpty_iff.1 hem), hwi]
        · rw [if_neg hem] at hel
          refine ev_eq _ (ih (i + 1) S2 _ (by omega) hel hq2 hs2 (by omega) (by simp; omega)) fun k => ?_
          rw [if_neg (by rw [tl, mk_data]; intro hx; exact hem (by rw [hx]; rfl)), if_pos (by omega), hwi]; rfl
      have hes : e.size ≤ 100 := by omega
      cases flag with
      | true =>
        have hd : ((S1 ++ (⟨#[32, 9]⟩ : ByteArray)) ++ e).data.toList = S1.data.toList ++ (32 :: 9 :: e.data.toList) := by rw [data_app, data_app]; simp
        have hd2 : (S1 ++ (⟨#[32, 9]⟩ : ByteArray)).size = S1.size + 2 := by rw [sz, data_app]; simp [← sz]
        refine ev_to _ (go _ (.inr hd)) fun k => ?_
        simp only [pantrylaw01_SignJoins.j3]; rw [if_pos trivial, if_pos (by omega), if_pos (by omega)]
      | false =>
        refine ev_to _ (go (S1 ++ e) (.inl (data_app _ _))) fun k => ?_
        simp only [pantrylaw01_SignJoins.j3]; rw [if_neg (by simp), if_pos (by omega)]
    have step2 : ∀ (S1 : ByteArray), S1.size ≤ S.size + 1 → (∀ c ∈ S1.data.toList, c ≠ 34) →
        (∀ x : List UInt8, (∀ c ∈ x, c ≠ 34 ∧ c ≠ 44) → elems (S1.data.toList ++ x) = want ++ keep [x]) →
        Ev (fun k => pantrylaw01_SignJoins.j2 k bl S1 want (i : Int) e l (l.length : Int) (i : Int)) true := by
      intro S1 a b c
      by_cases hb : (i : Int) < (bl.length : Int)
      · refine ev_to _ (step3 S1 (Int.tmod (rd bl (i : Int)) 3 == 1) a b c) fun k => ?_
        simp only [pantrylaw01_SignJoins.j2]; rw [if_pos hb, if_pos (by omega)]
      · refine ev_to _ (step3 S1 false a b c) fun k => ?_
        simp only [pantrylaw01_SignJoins.j2]; rw [if_neg hb]
    by_cases hi0 : i = 0
    · subst hi0
      have hS0 := h0 rfl
      have hw0 : want = [] := List.length_eq_zero_iff.1 (by omega)
      refine ev_eq _ (step2 S (by omega) hq (fun x hx => by rw [hS0, hw0, List.nil_append, List.nil_append, elems_plain x hx])) fun k => ?_
      rw [if_neg (by omega)]
    · have hd : (S ++ (⟨#[44]⟩ : ByteArray)).data.toList = S.data.toList ++ [44] := by rw [data_app]
      have hds : (S ++ (⟨#[44]⟩ : ByteArray)).size = S.size + 1 := by rw [sz, hd]; simp [← sz]
      refine ev_eq _ (step2 (S ++ (⟨#[44]⟩ : ByteArray)) (by omega) (by rw [hd]; intro c hc; rcases List.mem_append.1 hc with hc | hc; exact hq c hc; simp at hc; rw [hc]; decide) (fun x hx => by rw [hd, List.append_assoc, List.singleton_append, elems_two _ _ hq, he, elems_plain x hx])) fun k => ?_
      rw [if_pos (by omega), if_pos (by omega)]
theorem SignJoins : ∀ (l0 : List ByteArray) (l1 : List Int), (l0.length ≤ 9223372036854775807 ∧ ∀ x ∈ l0, x.size ≤ 9223372036854775807) → (l1.length ≤ 9223372036854775807 ∧ ∀ x ∈ l1, (Lit.int .i64 x).wf = true) → ∃ k, pantrylaw01_SignJoins.f k l0 l1 = some true := by
  intro l bl hl hbl
  refine Ev.rounds ?_
  unfold pantrylaw01_SignJoins.f
  refine ev_bind anchor_ev ?_
  by_cases hbig : (l.length : Int) > 40
  · exact ev_now fun k => by rw [if_pos rfl, if_pos hbig]
  · refine ev_eq _ (joins_loop bl hbl.1 l (by omega) l.length 0 ⟨#[]⟩ [] (by omega) (by rfl) (by simp) (by rw [sz]; simp) (by intro _; rfl) (by simp)) fun k => ?_
    rw [if_pos rfl, if_neg hbig]; rfl

end Go.Proofs.YtnbgffndhkgdpaaDoor.Pure
