import Derived.Test.YtllnleokjcimhaaDoorZEntrySameEnQB
/-
Entries in memory and what the chapter's functions do with them, told by plain data.
-/
namespace Go.Proofs.YtllnleokjcimhaaDoor.En
open Go.RowKit Go.Maps Go.Proofs.YtllnleokjcimhaaDoorW.PrintWords Go.Proofs.YtllnleokjcimhaaDoorW.PrintLast Go.Proofs.YtllnleokjcimhaaDoorW.PrintMore Go.Proofs.YtllnleokjcimhaaDoor.P Go.Proofs.YtllnleokjcimhaaDoor.Pure
set_option linter.unusedVariables false
set_option linter.unusedSimpArgs false
/-- A row that is read as long as only blocks of S turn. -/
def RowS {α : Type} (d : Kd α) (S : Nat → Prop) (w : World) (v : Value) (xs : List α) : Prop := ∃ A c, v = .slice A xs.length c ∧ xs.length ≤ c ∧ ∀ W, Only S w W → Kd.C d W A xs.length xs
section
variable {w w' w2 : World} {S S2 : Nat → Prop} {v : Value}
theorem RowS.step {α : Type} {d : Kd α} {xs : List α} (h : RowS d S w v xs) (ho : Only S2 w w2) (hs : ∀ k, S2 k → S k) : RowS d S w2 v xs := by
  obtain ⟨A, c, e, hc, hr⟩ := h
  exact ⟨A, c, e, hc, fun W hW => hr W ((ho.mono hs).trans hW)⟩
theorem RowS.less {α : Type} {d : Kd α} {xs : List α} (h : RowS d S w v xs) (hs : ∀ k, S2 k → S k) : RowS d S2 w v xs := by
  obtain ⟨A, c, e, hc, hr⟩ := h
  exact ⟨A, c, e, hc, fun W hW => hr W (hW.mono hs)⟩
theorem RowS.of_C {α : Type} {d : Kd α} {xs : List α} {A : Option Addr} {c : Nat} (h : Kd.C d w A xs.length xs) (hc : xs.length ≤ c) : RowS d (fun _ => False) w (.slice A xs.length c) xs :=
  ⟨A, c, rfl, hc, fun W hW => Kd.C_below h (hW.below (Nat.le_refl _) (fun k hk => hk.elim))⟩
theorem RowS.of_own {α : Type} {d : Kd α} {e b : Nat} {ok : Nat → Prop} {xs : List α} (h : d.R e w b ok v xs) : RowS d (fun k => k < b) w v xs := Row.of_own h
end
/-- An entry in memory. -/
def EntK {β : Type} (F : Kd β) (f : List (ByteArray × ByteArray) → List β) (S : Nat → Prop) (w : World) (v : Value) (x : PE) : Prop := ∃ vn vf vb, v = .agg #[.string x.key, .string x.second, vn, .int .i64 x.asked, .int .i64 x.came, .int .i64 x.status, vf, vb, .int .i64 x.gen] ∧
  RowS Kd.string S w vn x.names ∧ RowS F S w vf (f x.fields) ∧ RowS (Kd.int .u8) S w vb x.body
abbrev Ent := EntK k53 flds
abbrev EntR := EntK k75 rflds
section
variable {w w' w2 : World} {S S2 : Nat → Prop} {v v2 : Value} {x y : PE}
theorem EntK.step {β : Type} {F : Kd β} {f : List (ByteArray × ByteArray) → List β} (h : EntK F f S w v x) (ho : Only S2 w w2) (hs : ∀ k, S2 k → S k) : EntK F f S w2 v x := by
  obtain ⟨vn, vf, vb, e, h1, h2, h3⟩ := h
  exact ⟨vn, vf, vb, e, h1.step ho hs, h2.step ho hs, h3.step ho hs⟩
theorem EntK.less {β : Type} {F : Kd β} {f : List (ByteArray × ByteArray) → List β} (h : EntK F f S w v x) (hs : ∀ k, S2 k → S k) : EntK F f S2 w v x := by
  obtain ⟨vn, vf, vb, e, h1, h2, h3⟩ := h
  exact ⟨vn, vf, vb, e, h1.less hs, h2.less hs, h3.less hs⟩
theorem EntK.new {β : Type} {F : Kd β} {f : List (ByteArray × ByteArray) → List β} (h : EntK F f S w v x) (hb : Below w.heap.size w w2) : EntK F f S w2 v x := h.step (S2 := fun _ => False) (Only.of_below hb _) (fun _ hk => hk.elim)
theorem EntK.agg {β : Type} {F : Kd β} {f : List (ByteArray × ByteArray) → List β} (h : EntK F f S w v x) : ∃ cs : Array Value, v = .agg cs ∧ cs.size = 9 := by
  obtain ⟨vn, vf, vb, e, -⟩ := h
  exact ⟨_, e, rfl⟩
theorem small_any (h : Ent S w v x) (hn : x.names.length ≤ 9223372036854775807) (hf : x.fields.length ≤ 9223372036854775807) : Calls Tryd.prog 11 #[v] w fun e w' => e = .returned (.bool (smallP x)) ∧ Below w.heap.size w w' := by
  obtain ⟨k, hk⟩ := (small_ev x hn hf).rounds
  obtain ⟨vn, vf, vb, rfl, ⟨An, cn, rfl, hcn, hrn⟩, ⟨Af, cf, rfl, hcf, hrf⟩, ⟨Ab, cb, rfl, hcb, hrb⟩⟩ := h
  exact (pantrymade_SmallEntry.calls k x.key x.second An cn x.names x.asked x.came x.status Af cf (flds x.fields) Ab cb x.body x.gen _ w (hrn w (Only.refl _ _)) hcn (hrf w (Only.refl _ _)) hcf (hrb w (Only.refl _ _)) hcb hk).mono fun e w' h => h
theorem enc_any (h : Ent S w v x) (hb : Bnd x) (n : Int) : Calls Tryd.prog 13 #[.int .i64 n, v] w fun e w' => ∃ vb, e = .returned (.tuple #[vb, .int .i64 (encP n x).2]) ∧ Kd.R (Kd.int .u8) 5 w' w.heap.size (fun _ => True) vb (encP n x).1 ∧ Below w.heap.size w w' := by
  obtain ⟨k, hk⟩ := (enc_ev n x hb).rounds
  obtain ⟨vn, vf, vb, rfl, ⟨An, cn, rfl, hcn, hrn⟩, ⟨Af, cf, rfl, hcf, hrf⟩, ⟨Ab, cb, rfl, hcb, hrb⟩⟩ := h
  exact entry_Encode.calls k n x.key x.second An cn x.names x.asked x.came x.status Af cf (flds x.fields) Ab cb x.body x.gen (encP n x).1 (encP n x).2 w (hrn w (Only.refl _ _)) hcn (hrf w (Only.refl _ _)) hcf (hrb w (Only.refl _ _)) hcb hk
theorem same_any (h : Ent S w v x) (h2 : Ent S2 w v2 y) (hx : Bnd x) : Calls Tryd.prog 22 #[v, v2] w fun e w' => e = .returned (.bool (sameP x y)) ∧ Below w.heap.size w w' := by
  obtain ⟨k, hk⟩ := (same_ev x y hx).rounds
  obtain ⟨vn, vf, vb, rfl, ⟨An, cn, rfl, hcn, hrn⟩, ⟨Af, cf, rfl, hcf, hrf⟩, ⟨Ab, cb, rfl, hcb, hrb⟩⟩ := h
  obtain ⟨vn2, vf2, vb2, rfl, ⟨An2, cn2, rfl, hcn2, hrn2⟩, ⟨Af2, cf2, rfl, hcf2, hrf2⟩, ⟨Ab2, cb2, rfl, hcb2, hrb2⟩⟩ := h2
  exact (entry_Same.calls k x.key x.second An cn x.names x.asked x.came x.status Af cf (flds x.fields) Ab cb x.body x.gen y.key y.second An2 cn2 y.names y.asked y.came y.status Af2 cf2 (flds y.fields) Ab2 cb2 y.body y.gen _ w (hrn w (Only.refl _ _)) hcn (hrf w (Only.refl _ _)) hcf (hrb w (Only.refl _ _)) hcb (hrn2 w (Only.refl _ _)) hcn2 (hrf2 w (Only.refl _ _)) hcf2 (hrb2 w (Only.refl _ _)) hcb2 hk)
theorem rsame_any (h : EntR S w v x) (h2 : EntR S2 w v2 y) (hx : Bnd x) (hy : Bnd y) : Calls Tryd.prog 20 #[v, v2] w fun e w' => e = .returned (.bool (sameP x y)) ∧ Below w.heap.size w w' := by
  obtain ⟨k, hk⟩ := (rsame_ev x y hx hy).rounds
  obtain ⟨vn, vf, vb, rfl, ⟨An, cn, rfl, hcn, hrn⟩, ⟨Af, cf, rfl, hcf, hrf⟩, ⟨Ab, cb, rfl, hcb, hrb⟩⟩ := h
  obtain ⟨vn2, vf2, vb2, rfl, ⟨An2, cn2, rfl, hcn2, hrn2⟩, ⟨Af2, cf2, rfl, hcf2, hrf2⟩, ⟨Ab2, cb2, rfl, hcb2, hrb2⟩⟩ := h2
  exact (pantryref14_Same.calls k x.key x.second An cn x.names x.asked x.came x.status Af cf (rflds x.fields) Ab cb x.body x.gen y.key y.second An2 cn2 y.names y.asked y.came y.status Af2 cf2 (rflds y.fields) Ab2 cb2 y.body y.gen _ w (hrn w (Only.refl _ _)) hcn (hrf w (Only.refl _ _)) hcf (hrb w (Only.refl _ _)) hcb (hrn2 w (Only.refl _ _)) hcn2 (hrf2 w (Only.refl _ _)) hcf2 (hrb2 w (Only.refl _ _)) hcb2 hk)
/-- Bytes are decoded. -/
theorem dec_any {A : Option Addr} {c : Nat} {l : List Int} (hr : ReadB w A l.length l) (hc : l.length ≤ c) (hrng : ∀ x ∈ l, 0 ≤ x ∧ x < 256) : Calls Tryd.prog 19 #[.slice A l.length c] w fun e w' => ∃ v, e = .returned (.tuple #[v, .int .i64 (decP l).2.1, .int .i64 (decP l).2.2]) ∧ Ent (fun k => k < w.heap.size) w' v (decP l).1 ∧ Below w.heap.size w w' := by
  obtain ⟨k, hk⟩ := (dec_ev l hrng).rounds
  refine (Decode_any k hr hc hrng hk).mono ?_
  rintro e w' ⟨vn, vf, vb, rfl, h1, h2, h3, hb⟩
  exact ⟨_, rfl, ⟨vn, vf, vb, rfl, h1, h2, h3⟩, hb⟩
/-! ### made: an entry as the document has it -/
theorem made_fields_ev (l : List (ByteArray × ByteArray)) (hl : l.length ≤ 1000000) : Ev (fun k => pantrymade_Fields.f k (flds l)) (rflds l) := by
  have el : (flds l).length = l.length := by simp [flds]
  have loop : ∀ n j : Nat, j + n = l.length → Ev (fun k => pantrymade_Fields.l0 k (rflds (l.take j)) (flds l) (l.length : Int) (j : Int)) (rflds l) := by
    intro n
    induction n with
    | zero =>
      intro j hj
      refine ev_one fun k => ?_
      show pantrymade_Fields.l0 (k + 1) _ _ _ _ = _
      rw [pantrymade_Fields.l0, if_neg (by omega), List.take_of_length_le (by omega)]
    | succ n ih =>
      intro j hj
      have h1 : j < l.length := by omega
      have e1 := flds_at l j h1
      have e2 : rflds (l.take (j + 1)) = rflds (l.take j) ++ [⟨l[j].1, l[j].2⟩] := by
        unfold rflds; rw [List.take_succ_eq_append_getElem h1, List.map_append]; rfl
      refine ev_to _ (ih (j + 1) (by omega)) fun k => ?_
      show pantrymade_Fields.l0 (k + 1) _ _ _ _ = _
      rw [pantrymade_Fields.l0, if_pos (by omega), if_pos (by omega), if_pos (by omega), if_pos (by simp [rflds]; omega), e1, wrap_id (by omega) (by omega), e2]; rfl
  refine ev_eq _ (loop l.length 0 (by omega)) fun k => ?_
  show pantrymade_Fields.f k _ = _
  rw [pantrymade_Fields.f, el]; rfl
/-- The answer's block, written cell by cell. -/
theorem put9R (W : World) (q : Nat) (a0 a1 a2 a3 a4 a5 a6 a7 a8 : Value) (hz : W.heap[q]? = some (.cells #[(.string ⟨#[]⟩), (.string ⟨#[]⟩), (.slice none 0 0), (.int .i64 0), (.int .i64 0), (.int .i64 0), (.slice none 0 0), (.slice none 0 0), (.int .i64 0)] 32 (0, 0))) :
    (((((((((W.setCell ⟨q, 0, none⟩ a0).setCell ⟨q, 1, none⟩ a1).setCell ⟨q, 2, none⟩ a2).setCell ⟨q, 3, none⟩ a3).setCell ⟨q, 4, none⟩ a4).setCell ⟨q, 5, none⟩ a5).setCell ⟨q, 6, none⟩ a6).setCell ⟨q, 7, none⟩ a7).setCell ⟨q, 8, none⟩ a8).heap[q]? = some (.cells #[a0, a1, a2, a3, a4, a5, a6, a7, a8] 32 (0, 0)) ∧
    Only (fun k => k = q) W (((((((((W.setCell ⟨q, 0, none⟩ a0).setCell ⟨q, 1, none⟩ a1).setCell ⟨q, 2, none⟩ a2).setCell ⟨q, 3, none⟩ a3).setCell ⟨q, 4, none⟩ a4).setCell ⟨q, 5, none⟩ a5).setCell ⟨q, 6, none⟩ a6).setCell ⟨q, 7, none⟩ a7).setCell ⟨q, 8, none⟩ a8) := by
  have o : ∀ (W : World) (i : Nat) (v : Value), Only (fun k => k = q) W (W.setCell ⟨q, i, none⟩ v) := fun W i v => Only.setCell (S := fun k => k = q) W rfl v
  refine ⟨?_, ((((((((o _ _ _).trans (o _ _ _)).trans (o _ _ _)).trans (o _ _ _)).trans (o _ _ _)).trans (o _ _ _)).trans (o _ _ _)).trans (o _ _ _)).trans (o _ _ _)⟩
  rw [heap_setCell_same _ q 8 _ _ _ (heap_setCell_same _ q 7 _ _ _ (heap_setCell_same _ q 6 _ _ _ (heap_setCell_same _ q 5 _ _ _ (heap_setCell_same _ q 4 _ _ _ (heap_setCell_same _ q 3 _ _ _ (heap_setCell_same _ q 2 _ _ _ (heap_setCell_same _ q 1 _ _ _ (heap_setCell_same W q 0 _ _ _ hz))))))))]
  simp only [List.setIfInBounds_toArray, List.set_cons_zero, List.set_cons_succ]
theorem nine {w' : World} {g : Nat} {a0 a1 a2 a3 a4 a5 a6 a7 a8 : Value} {T : TypeId} {fr : Nat × Nat} (h : w'.heap[g]? = some (.cells #[a0, a1, a2, a3, a4, a5, a6, a7, a8] T fr)) :
    w'.cell? ⟨g, 0, none⟩ = some a0 ∧ w'.cell? ⟨g, 1, none⟩ = some a1 ∧ w'.cell? ⟨g, 2, none⟩ = some a2 ∧ w'.cell? ⟨g, 3, none⟩ = some a3 ∧ w'.cell? ⟨g, 4, none⟩ = some a4 ∧ w'.cell? ⟨g, 5, none⟩ = some a5 ∧ w'.cell? ⟨g, 6, none⟩ = some a6 ∧ w'.cell? ⟨g, 7, none⟩ = some a7 ∧ w'.cell? ⟨g, 8, none⟩ = some a8 := by
  refine ⟨?_, ?_, ?_, ?_, ?_, ?_, ?_, ?_, ?_⟩ <;> rw [cell_of_row _ _ _ _ _ _ h] <;> rfl
set_option maxHeartbeats 4000000 in
set_option maxRecDepth 100000 in
theorem made_any (h : Ent S w v x) (hb : Bnd x) : Calls Tryd.prog 12 #[v] w fun e w' => ∃ v', e = .returned v' ∧ EntR (fun k => S k ∧ k < w.heap.size) w' v' x ∧ Below w.heap.size w w' := by
  obtain ⟨k, hk⟩ := (made_fields_ev x.fields (by have := hb.fields; omega)).rounds
  have HK := Fact.mk hk
  obtain ⟨vn, vf, vb, rfl, ⟨An, cn, rfl, hcn, hrn⟩, ⟨Af, cf, rfl, hcf, hrf⟩, ⟨Ab, cb, rfl, hcb, hrb⟩⟩ := h
  have RN := Fact.mk hrn
  have RF := Fact.mk hrf
  have RB := Fact.mk hrb
  clear hrn hrf hrb hk
  go_enter Tryd.func12, Tryd.ntmps12
  go_wp2_with fail
  have H1 : Fact (((w.alloc (.cells #[.string x.key, .string x.second, .slice An x.names.length cn, .int .i64 x.asked, .int .i64 x.came, .int .i64 x.status, .slice Af (flds x.fields).length cf, .slice Ab x.body.length cb, .int .i64 x.gen] 27)).alloc (.cells #[(.string ⟨#[]⟩), (.string ⟨#[]⟩), (.slice none 0 0), (.int .i64 0), (.int .i64 0), (.int .i64 0), (.slice none 0 0), (.slice none 0 0), (.int .i64 0)] 32)).drew.heap[w.heap.size]? = some (.cells #[.string x.key, .string x.second, .slice An x.names.length cn, .int .i64 x.asked, .int .i64 x.came, .int .i64 x.status, .slice Af (flds x.fields).length cf, .slice Ab x.body.length cb, .int .i64 x.gen] 27 (0, 0)) ∧ ((w.alloc (.cells #[.string x.key, .string x.second, .slice An x.names.length cn, .int .i64 x.asked, .int .i64 x.came, .int .i64 x.status, .slice Af (flds x.fields).length cf, .slice Ab x.body.length cb, .int .i64 x.gen] 27)).alloc (.cells #[(.string ⟨#[]⟩), (.string ⟨#[]⟩), (.slice none 0 0), (.int .i64 0), (.int .i64 0), (.int .i64 0), (.slice none 0 0), (.slice none 0 0), (.int .i64 0)] 32)).drew.heap[w.heap.size + 1]? = some (.cells #[(.string ⟨#[]⟩), (.string ⟨#[]⟩), (.slice none 0 0), (.int .i64 0), (.int .i64 0), (.int .i64 0), (.slice none 0 0), (.slice none 0 0), (.int .i64 0)] 32 (0, 0)) ∧ Below w.heap.size w ((w.alloc (.cells #[.string x.key, .string x.second, .slice An x.names.length cn, .int .i64 x.asked, .int .i64 x.came, .int .i64 x.status, .slice Af (flds x.fields).length cf, .slice Ab x.body.length cb, .int .i64 x.gen] 27)).alloc (.cells #[(.string ⟨#[]⟩), (.string ⟨#[]⟩), (.slice none 0 0), (.int .i64 0), (.int .i64 0), (.int .i64 0), (.slice none 0 0), (.slice none 0 0), (.int .i64 0)] 32)).drew) := by
    have b1 := (Below.refl w.heap.size w).alloc (Nat.le_refl _) (.cells #[.string x.key, .string x.second, .slice An x.names.length cn, .int .i64 x.asked, .int .i64 x.came, .int .i64 x.status, .slice Af (flds x.fields).length cf, .slice Ab x.body.length cb, .int .i64 x.gen] 27)
    refine ⟨⟨(Below.heap_alloc _ _ _ (by simp)).trans (heap_alloc_new w _), ?_, (b1.alloc (by simp) _).drew⟩⟩
    exact heap_alloc2_new w _ _
  skip
  refine start_ (n := 21) (S := fun w' => w'.cell? ⟨w.heap.size, 0, none⟩ = some (.string x.key) ∧ w'.cell? ⟨w.heap.size, 1, none⟩ = some (.string x.second) ∧ w'.cell? ⟨w.heap.size, 2, none⟩ = some (.slice An x.names.length cn) ∧ w'.cell? ⟨w.heap.size, 3, none⟩ = some (.int .i64 x.asked) ∧ w'.cell? ⟨w.heap.size, 4, none⟩ = some (.int .i64 x.came) ∧ w'.cell? ⟨w.heap.size, 5, none⟩ = some (.int .i64 x.status) ∧ w'.cell? ⟨w.heap.size, 6, none⟩ = some (.slice Af (flds x.fields).length cf) ∧ w'.cell? ⟨w.heap.size, 7, none⟩ = some (.slice Ab x.body.length cb) ∧ w'.cell? ⟨w.heap.size, 8, none⟩ = some (.int .i64 x.gen)) (ds := []) #[false, false, false, false, false, false, false, false, false, false, false, false, false, false, false, false, false, false, false, false, false] (by kernel_rfl) rfl rfl (nine H1.out.1) (fun hHeld => ?_)
  generalize ((w.alloc (.cells #[.string x.key, .string x.second, .slice An x.names.length cn, .int .i64 x.asked, .int .i64 x.came, .int .i64 x.status, .slice Af (flds x.fields).length cf, .slice Ab x.body.length cb, .int .i64 x.gen] 27)).alloc (.cells #[(.string ⟨#[]⟩), (.string ⟨#[]⟩), (.slice none 0 0), (.int .i64 0), (.int .i64 0), (.int .i64 0), (.slice none 0 0), (.slice none 0 0), (.int .i64 0)] 32)).drew = w1 at *
  refine pure_ (i := 0) (N := (some 3)) (v := ?_) (a' := ?_) #[true, false, false, false, false, false, false, false, false, false, false, false, false, false, false, false, false, false, false, false, false] rfl rfl (by kernel_rfl) (fun _ _ _ h => h) (Or.inl ⟨by rfl, ?_⟩) ?_ ?_
  rotate_left
  · intro w'
    go_simp
    with_reducible rfl
  rotate_left
  · simp only [Act.put, List.setIfInBounds_toArray, List.set_cons_zero, List.set_cons_succ, i64_w, i32_w]
    rfl
  refine pure_ (i := 2) (N := (some 5)) (v := ?_) (a' := ?_) #[true, false, true, false, false, false, false, false, false, false, false, false, false, false, false, false, false, false, false, false, false] rfl rfl (by kernel_rfl) (fun _ _ _ h => h) (Or.inl ⟨by rfl, ?_⟩) ?_ ?_
  rotate_left
  · intro w'
    go_simp
    with_reducible rfl
  rotate_left
  · simp only [Act.put, List.setIfInBounds_toArray, List.set_cons_zero, List.set_cons_succ, i64_w, i32_w]
    rfl
  refine pure_ (i := 4) (N := (some 7)) (v := ?_) (a' := ?_) #[true, false, true, false, true, false, false, false, false, false, false, false, false, false, false, false, false, false, false, false, false] rfl rfl (by kernel_rfl) (fun _ _ _ h => h) (Or.inl ⟨by rfl, ?_⟩) ?_ ?_
  rotate_left
  · intro w'
    go_simp
    with_reducible rfl
  rotate_left
  · simp only [Act.put, List.setIfInBounds_toArray, List.set_cons_zero, List.set_cons_succ, i64_w, i32_w]
    rfl
  refine pure_ (i := 6) (N := (some 9)) (v := ?_) (a' := ?_) #[true, false, true, false, true, false, true, false, false, false, false, false, false, false, false, false, false, false, false, false, false] rfl rfl (by kernel_rfl) (fun _ _ _ h => h) (Or.inl ⟨by rfl, ?_⟩) ?_ ?_
  rotate_left
  · intro w'
    go_simp
    with_reducible rfl
  rotate_left
  · simp only [Act.put, List.setIfInBounds_toArray, List.set_cons_zero, List.set_cons_succ, i64_w, i32_w]
    rfl
  refine pure_ (i := 8) (N := (some 11)) (v := ?_) (a' := ?_) #[true, false, true, false, true, false, true, false, true, false, false, false, false, false, false, false, false, false, false, false, false] rfl rfl (by kernel_rfl) (fun _ _ _ h => h) (Or.inl ⟨by rfl, ?_⟩) ?_ ?_
  rotate_left
  · intro w'
    go_simp
    with_reducible rfl
  rotate_left
  · simp only [Act.put, List.setIfInBounds_toArray, List.set_cons_zero, List.set_cons_succ, i64_w, i32_w]
    rfl
  refine pure_ (i := 10) (N := (some 13)) (v := ?_) (a' := ?_) #[true, false, true, false, true, false, true, false, true, false, true, false, false, false, false, false, false, false, false, false, false] rfl rfl (by kernel_rfl) (fun _ _ _ h => h) (Or.inl ⟨by rfl, ?_⟩) ?_ ?_
  rotate_left
  · intro w'
    go_simp
    with_reducible rfl
  rotate_left
  · simp only [Act.put, List.setIfInBounds_toArray, List.set_cons_zero, List.set_cons_succ, i64_w, i32_w]
    rfl
  refine pure_ (i := 12) (N := (some 15)) (v := ?_) (a' := ?_) #[true, false, true, false, true, false, true, false, true, false, true, false, true, false, false, false, false, false, false, false, false] rfl rfl (by kernel_rfl) (fun _ _ _ h => h) (Or.inl ⟨by rfl, ?_⟩) ?_ ?_
  rotate_left
  · intro w'
    go_simp
    with_reducible rfl
  rotate_left
  · simp only [Act.put, List.setIfInBounds_toArray, List.set_cons_zero, List.set_cons_succ, i64_w, i32_w]
    rfl
  refine pure_ (i := 15) (N := (some 18)) (v := ?_) (a' := ?_) #[true, false, true, false, true, false, true, false, true, false, true, false, true, false, false, true, false, false, false, false, false] rfl rfl (by kernel_rfl) (fun _ _ _ h => h) (Or.inl ⟨by rfl, ?_⟩) ?_ ?_
  rotate_left
  · intro w'
    go_simp
    with_reducible rfl
  rotate_left
  · simp only [Act.put, List.setIfInBounds_toArray, List.set_cons_zero, List.set_cons_succ, i64_w, i32_w]
    rfl
  refine pure_ (i := 17) (N := (some 20)) (v := ?_) (a' := ?_) #[true, false, true, false, true, false, true, false, true, false, true, false, true, false, false, true, false, true, false, false, false] rfl rfl (by kernel_rfl) (fun _ _ _ h => h) (Or.inl ⟨by rfl, ?_⟩) ?_ ?_
  rotate_left
  · intro w'
    go_simp
    with_reducible rfl
  rotate_left
  · simp only [Act.put, List.setIfInBounds_toArray, List.set_cons_zero, List.set_cons_succ, i64_w, i32_w]
    rfl
  refine take_ (i := 1) (N := (some 4)) (v := ?_) (a' := ?_) #[true, true, true, false, true, false, true, false, true, false, true, false, true, false, false, true, false, true, false, false, false] rfl rfl (by kernel_rfl) (fun _ _ _ h => h) (Or.inl ⟨by rfl, ?_⟩) hHeld ?_ ?_
  rotate_left
  · rintro w' ⟨s0, s1, s2, s3, s4, s5, s6, s7, s8⟩
    go_simp
    with_reducible rfl
  rotate_left
  · simp only [Act.put, List.setIfInBounds_toArray, List.set_cons_zero, List.set_cons_succ, i64_w, i32_w]
    rfl
  refine take_ (i := 3) (N := (some 6)) (v := ?_) (a' := ?_) #[true, true, true, true, true, false, true, false, true, false, true, false, true, false, false, true, false, true, false, false, false] rfl rfl (by kernel_rfl) (fun _ _ _ h => h) (Or.inl ⟨by rfl, ?_⟩) hHeld ?_ ?_
  rotate_left
  · rintro w' ⟨s0, s1, s2, s3, s4, s5, s6, s7, s8⟩
    go_simp
    with_reducible rfl
  rotate_left
  · simp only [Act.put, List.setIfInBounds_toArray, List.set_cons_zero, List.set_cons_succ, i64_w, i32_w]
    rfl
  refine take_ (i := 5) (N := (some 8)) (v := ?_) (a' := ?_) #[true, true, true, true, true, true, true, false, true, false, true, false, true, false, false, true, false, true, false, false, false] rfl rfl (by kernel_rfl) (fun _ _ _ h => h) (Or.inl ⟨by rfl, ?_⟩) hHeld ?_ ?_
  rotate_left
  · rintro w' ⟨s0, s1, s2, s3, s4, s5, s6, s7, s8⟩
    go_simp
    with_reducible rfl
  rotate_left
  · simp only [Act.put, List.setIfInBounds_toArray, List.set_cons_zero, List.set_cons_succ, i64_w, i32_w]
    rfl
  refine take_ (i := 7) (N := (some 10)) (v := ?_) (a' := ?_) #[true, true, true, true, true, true, true, true, true, false, true, false, true, false, false, true, false, true, false, false, false] rfl rfl (by kernel_rfl) (fun _ _ _ h => h) (Or.inl ⟨by rfl, ?_⟩) hHeld ?_ ?_
  rotate_left
  · rintro w' ⟨s0, s1, s2, s3, s4, s5, s6, s7, s8⟩
    go_simp
    with_reducible rfl
  rotate_left
  · simp only [Act.put, List.setIfInBounds_toArray, List.set_cons_zero, List.set_cons_succ, i64_w, i32_w]
    rfl
  refine take_ (i := 9) (N := (some 12)) (v := ?_) (a' := ?_) #[true, true, true, true, true, true, true, true, true, true, true, false, true, false, false, true, false, true, false, false, false] rfl rfl (by kernel_rfl) (fun _ _ _ h => h) (Or.inl ⟨by rfl, ?_⟩) hHeld ?_ ?_
  rotate_left
  · rintro w' ⟨s0, s1, s2, s3, s4, s5, s6, s7, s8⟩
    go_simp
    with_reducible rfl
  rotate_left
  · simp only [Act.put, List.setIfInBounds_toArray, List.set_cons_zero, List.set_cons_succ, i64_w, i32_w]
    rfl
  refine take_ (i := 11) (N := (some 14)) (v := ?_) (a' := ?_) #[true, true, true, true, true, true, true, true, true, true, true, true, true, false, false, true, false, true, false, false, false] rfl rfl (by kernel_rfl) (fun _ _ _ h => h) (Or.inl ⟨by rfl, ?_⟩) hHeld ?_ ?_
  rotate_left
  · rintro w' ⟨s0, s1, s2, s3, s4, s5, s6, s7, s8⟩
    go_simp
    with_reducible rfl
  rotate_left
  · simp only [Act.put, List.setIfInBounds_toArray, List.set_cons_zero, List.set_cons_succ, i64_w, i32_w]
    rfl
  refine take_ (i := 13) (N := (some 16)) (v := ?_) (a' := ?_) #[true, true, true, true, true, true, true, true, true, true, true, true, true, true, false, true, false, true, false, false, false] rfl rfl (by kernel_rfl) (fun _ _ _ h => h) (Or.inl ⟨by rfl, ?_⟩) hHeld ?_ ?_
  rotate_left
  · rintro w' ⟨s0, s1, s2, s3, s4, s5, s6, s7, s8⟩
    go_simp
    with_reducible rfl
  rotate_left
  · simp only [Act.put, List.setIfInBounds_toArray, List.set_cons_zero, List.set_cons_succ, i64_w, i32_w]
    rfl
  refine take_ (i := 16) (N := (some 19)) (v := ?_) (a' := ?_) #[true, true, true, true, true, true, true, true, true, true, true, true, true, true, false, true, true, true, false, false, false] rfl rfl (by kernel_rfl) (fun _ _ _ h => h) (Or.inl ⟨by rfl, ?_⟩) hHeld ?_ ?_
  rotate_left
  · rintro w' ⟨s0, s1, s2, s3, s4, s5, s6, s7, s8⟩
    go_simp
    with_reducible rfl
  rotate_left
  · simp only [Act.put, List.setIfInBounds_toArray, List.set_cons_zero, List.set_cons_succ, i64_w, i32_w]
    rfl
  refine take_ (i := 18) (N := (some 21)) (v := ?_) (a' := ?_) #[true, true, true, true, true, true, true, true, true, true, true, true, true, true, false, true, true, true, true, false, false] rfl rfl (by kernel_rfl) (fun _ _ _ h => h) (Or.inl ⟨by rfl, ?_⟩) hHeld ?_ ?_
  rotate_left
  · rintro w' ⟨s0, s1, s2, s3, s4, s5, s6, s7, s8⟩
    go_simp
    with_reducible rfl
  rotate_left
  · simp only [Act.put, List.setIfInBounds_toArray, List.set_cons_zero, List.set_cons_succ, i64_w, i32_w]
    rfl
  refine one_ (i := 14) (N := (some 17)) #[true, true, true, true, true, true, true, true, true, true, true, true, true, true, true, true, true, true, true, false, false] rfl rfl (by kernel_rfl) (by decide) (fun K hK => ?_)
  refine goes_ Tryd.func24 (by kernel_rfl) rfl #[.slice Af (flds x.fields).length cf] (by rfl) rfl rfl (by (try simp only [List.map_toArray, List.map_cons, List.map_nil]); first | done | rfl) ?_
  refine (pantrymade_Fields.calls k Af cf (flds x.fields) (rflds x.fields) w1 (RF.out w1 (Only.of_below H1.out.2.2 _)) hcf HK.out).mono ?_
  rintro e w2 ⟨vr, rfl, hR, hb2⟩
  have H2 : Fact (w2.heap[w.heap.size]? = some (.cells #[.string x.key, .string x.second, .slice An x.names.length cn, .int .i64 x.asked, .int .i64 x.came, .int .i64 x.status, .slice Af (flds x.fields).length cf, .slice Ab x.body.length cb, .int .i64 x.gen] 27 (0, 0)) ∧ w2.heap[w.heap.size + 1]? = some (.cells #[(.string ⟨#[]⟩), (.string ⟨#[]⟩), (.slice none 0 0), (.int .i64 0), (.int .i64 0), (.int .i64 0), (.slice none 0 0), (.slice none 0 0), (.int .i64 0)] 32 (0, 0)) ∧ Below w.heap.size w w2 ∧ w.heap.size + 1 < w1.heap.size) :=
    ⟨(hb2.block _ (Array.getElem?_eq_some_iff.1 H1.out.1).1).trans H1.out.1, (hb2.block _ (Array.getElem?_eq_some_iff.1 H1.out.2.1).1).trans H1.out.2.1, next_new H1.out.2.2 hb2, (Array.getElem?_eq_some_iff.1 H1.out.2.1).1⟩
  obtain ⟨Ar, cr, rfl, hcr, -⟩ := Kd.R_reads hR
  have HR := Fact.mk hR
  replace hHeld := nine H2.out.1
  clear hR hb2 H1
  refine ⟨_, rfl, ?_⟩
  refine hK.out _ _ hHeld (fun hxx => ?_)
  clear hK K hxx
  refine norm_ (a' := ?_) ?_ ?_
  rotate_left
  · show Act.put _ (some 17) _ = _
    simp only [Act.put, List.setIfInBounds_toArray, List.set_cons_zero, List.set_cons_succ, i64_w, i32_w]
    rfl
  refine pure_ (i := 19) (N := (some 22)) (v := ?_) (a' := ?_) #[true, true, true, true, true, true, true, true, true, true, true, true, true, true, true, true, true, true, true, true, false] rfl rfl (by kernel_rfl) (fun _ _ _ h => h) (Or.inl ⟨by rfl, ?_⟩) ?_ ?_
  rotate_left
  · intro w'
    go_simp
    with_reducible rfl
  rotate_left
  · simp only [Act.put, List.setIfInBounds_toArray, List.set_cons_zero, List.set_cons_succ, i64_w, i32_w]
    rfl
  refine one_ (i := 20) (N := none) #[true, true, true, true, true, true, true, true, true, true, true, true, true, true, true, true, true, true, true, true, true] rfl rfl (by kernel_rfl) (by decide) (fun K hK => ?_)
  obtain ⟨z0, z1, z2, z3, z4, z5, z6, z7, z8⟩ := nine H2.out.2.1
  have fz : ∀ i, w2.frozen? ⟨w.heap.size + 1, i, none⟩ = false := fun i => frozen_of_row _ _ _ _ _ H2.out.2.1
  refine skip_ (w1 := ?_) (by rfl) rfl ?_ ?_
  rotate_left
  · go_simp
    rfl
  clear z0 z1 z2 z3 z4 z5 z6 z7 z8 fz
  obtain ⟨hW, hO⟩ := put9R w2 (w.heap.size + 1) (.string x.key) (.string x.second) (.slice An x.names.length cn) (.int .i64 x.asked) (.int .i64 x.came) (.int .i64 x.status) (.slice Ar (rflds x.fields).length cr) (.slice Ab x.body.length cb) (.int .i64 x.gen) H2.out.2.1
  have H3 := Fact.mk (And.intro hW hO)
  have hq := H2.out.2.2.1.size
  refine hK.out _ _ (nine ((hO.block w.heap.size (Array.getElem?_eq_some_iff.1 H2.out.1).1 (by omega)).trans H2.out.1)) (fun hxx => ?_)
  clear hK K hxx hW hO hHeld
  refine done_ (by kernel_rfl) ?_
  go_wp2_with fail
  refine bodyPost_ret (results_cell_row rfl _ _ (w.heap.size + 1) 32 #[.string x.key, .string x.second, .slice An x.names.length cn, .int .i64 x.asked, .int .i64 x.came, .int .i64 x.status, .slice Ar (rflds x.fields).length cr, .slice Ab x.body.length cb, .int .i64 x.gen] (0, 0) _ rfl H3.out.1 Tryd.underlying32 rfl (by kernel_rfl)) rfl ?_
  have B1 : Only S w w2 := Only.of_below H2.out.2.2.1 S
  have B2 := B1.then_ H3.out.2 (fun k hk => .inr (by omega))
  obtain ⟨Ar2, cr2, er, -, hfr⟩ := Row.of_own (b := w1.heap.size) HR.out
  injection er with er1 er2 er3
  subst er1
  have hlt := H2.out.2.2.2
  exact ⟨_, rfl, ⟨_, _, _, rfl, ⟨An, cn, rfl, hcn, fun W hW => RN.out W (B2.trans (hW.mono fun k hk => hk.1))⟩, ⟨Ar, cr, rfl, hcr, fun W hW => hfr W ((H3.out.2.mono fun k hk => by omega).trans (hW.mono fun k hk => by omega))⟩, ⟨Ab, cb, rfl, hcb, fun W hW => RB.out W (B2.trans (hW.mono fun k hk => hk.1))⟩⟩, next_below H2.out.2.2.1 H3.out.2 (fun k hk => by omega)⟩
end
end Go.Proofs.YtllnleokjcimhaaDoor.En
