import Derived.Test.YtllnleokjcimhaaDoorZEntryFitsEnP5
/-
Entries in memory and what the chapter's functions do with them, told by plain data.
-/
namespace Go.Proofs.YtllnleokjcimhaaDoor.En
open Go.RowKit Go.Maps Go.Proofs.YtllnleokjcimhaaDoorW.PrintWords Go.Proofs.YtllnleokjcimhaaDoorW.PrintLast Go.Proofs.YtllnleokjcimhaaDoorW.PrintMore Go.Proofs.YtllnleokjcimhaaDoor.P Go.Proofs.YtllnleokjcimhaaDoor.Pure
set_option linter.unusedVariables false
set_option linter.unusedSimpArgs false
/-- A row that is read as long as only blocks of S turn. -/
def RowS {α : Type} (d : Kd α) (S : Nat → Prop) (w : World) (v : Value) (xs : List α) : Prop := ∃ A c, v = .slice A xs.length c ∧ xs.length ≤ c ∧ ∀ W, Only S w W → Kd.C d W A xs.length xs
section
variable {w w' w2 : World} {S S2 : Nat → Prop} {v : Value}
theorem RowS.step {α : Type} {d : Kd α} {xs : List α} (h : RowS d S w v xs) (ho : Only S2 w w2) (hs : ∀ k, S2 k → S k) : RowS d S w2 v xs := by
  obtain ⟨A, c, e, hc, hr⟩ := h
  exact ⟨A, c, e, hc, fun W hW => hr W ((ho.mono hs).trans hW)⟩
theorem RowS.less {α : Type} {d : Kd α} {xs : List α} (h : RowS d S w v xs) (hs : ∀ k, S2 k → S k) : RowS d S2 w v xs := by
  obtain ⟨A, c, e, hc, hr⟩ := h
  exact ⟨A, c, e, hc, fun W hW => hr W (hW.mono hs)⟩
theorem RowS.of_C {α : Type} {d : Kd α} {xs : List α} {A : Option Addr} {c : Nat} (h : Kd.C d w A xs.length xs) (hc : xs.length ≤ c) : RowS d (fun _ => False) w (.slice A xs.length c) xs :=
  ⟨A, c, rfl, hc, fun W hW => Kd.C_below h (hW.below (Nat.le_refl _) (fun k hk => hk.elim))⟩
theorem RowS.of_own {α : Type} {d : Kd α} {e b : Nat} {ok : Nat → Prop} {xs : List α} (h : d.R e w b ok v xs) : RowS d (fun k => k < b) w v xs := Row.of_own h
end
/-- An entry in memory. -/
def EntK {β : Type} (F : Kd β) (f : List (ByteArray × ByteArray) → List β) (S : Nat → Prop) (w : World) (v : Value) (x : PE) : Prop := ∃ vn vf vb, v = .agg #[.string x.key, .string x.second, vn, .int .i64 x.asked, .int .i64 x.came, .int .i64 x.status, vf, vb, .int .i64 x.gen] ∧
  RowS Kd.string S w vn x.names ∧ RowS F S w vf (f x.fields) ∧ RowS (Kd.int .u8) S w vb x.body
abbrev Ent := EntK k53 flds
section
variable {w w' w2 : World} {S S2 : Nat → Prop} {v v2 : Value} {x y : PE}
theorem EntK.step {β : Type} {F : Kd β} {f : List (ByteArray × ByteArray) → List β} (h : EntK F f S w v x) (ho : Only S2 w w2) (hs : ∀ k, S2 k → S k) : EntK F f S w2 v x := by
  obtain ⟨vn, vf, vb, e, h1, h2, h3⟩ := h
  exact ⟨vn, vf, vb, e, h1.step ho hs, h2.step ho hs, h3.step ho hs⟩
theorem EntK.less {β : Type} {F : Kd β} {f : List (ByteArray × ByteArray) → List β} (h : EntK F f S w v x) (hs : ∀ k, S2 k → S k) : EntK F f S2 w v x := by
  obtain ⟨vn, vf, vb, e, h1, h2, h3⟩ := h
  exact ⟨vn, vf, vb, e, h1.less hs, h2.less hs, h3.less hs⟩
theorem EntK.new {β : Type} {F : Kd β} {f : List (ByteArray × ByteArray) → List β} (h : EntK F f S w v x) (hb : Below w.heap.size w w2) : EntK F f S w2 v x := h.step (S2 := fun _ => False) (Only.of_below hb _) (fun _ hk => hk.elim)
theorem EntK.agg {β : Type} {F : Kd β} {f : List (ByteArray × ByteArray) → List β} (h : EntK F f S w v x) : ∃ cs : Array Value, v = .agg cs ∧ cs.size = 9 := by
  obtain ⟨vn, vf, vb, e, -⟩ := h
  exact ⟨_, e, rfl⟩
theorem size_E : (Tryd.prog.info? 27).map (·.size) = some 9 := by kernel_rfl
set_option maxRecDepth 100000 in
/-- The whole of an entry is loaded. -/
theorem loadE {g : Nat} {cs : Array Value} {T : TypeId} {fr : Nat × Nat} (hg : w.heap[g]? = some (.cells cs T fr)) (hs : cs.size = 9) : (loadVar 27 ⟨g, 0, none⟩).run Tryd.prog w = .ok (.agg cs) w :=
  run_loadVar_row w g T 27 cs fr _ hg Tryd.underlying27 rfl (by rw [hs]; exact size_E)
/-! ### the program's -/
theorem right_any (h : Ent S w v x) (hb : Bnd x) : Calls Tryd.prog 14 #[v] w fun e w' => e = .returned (.bool (rightP x)) ∧ Below w.heap.size w w' := by
  obtain ⟨k, hk⟩ := (right_ev x hb).rounds
  obtain ⟨vn, vf, vb, rfl, ⟨An, cn, rfl, hcn, hrn⟩, ⟨Af, cf, rfl, hcf, hrf⟩, ⟨Ab, cb, rfl, hcb, hrb⟩⟩ := h
  exact entry_Entry_Right.calls k x.key x.second An cn x.names x.asked x.came x.status Af cf (flds x.fields) Ab cb x.body x.gen _ w (hrn w (Only.refl _ _)) hcn (hrf w (Only.refl _ _)) hcf (hrb w (Only.refl _ _)) hcb hk
theorem small_any (h : Ent S w v x) (hn : x.names.length ≤ 9223372036854775807) (hf : x.fields.length ≤ 9223372036854775807) : Calls Tryd.prog 11 #[v] w fun e w' => e = .returned (.bool (smallP x)) ∧ Below w.heap.size w w' := by
  obtain ⟨k, hk⟩ := (small_ev x hn hf).rounds
  obtain ⟨vn, vf, vb, rfl, ⟨An, cn, rfl, hcn, hrn⟩, ⟨Af, cf, rfl, hcf, hrf⟩, ⟨Ab, cb, rfl, hcb, hrb⟩⟩ := h
  exact (pantrymade_SmallEntry.calls k x.key x.second An cn x.names x.asked x.came x.status Af cf (flds x.fields) Ab cb x.body x.gen _ w (hrn w (Only.refl _ _)) hcn (hrf w (Only.refl _ _)) hcf (hrb w (Only.refl _ _)) hcb hk).mono fun e w' h => h
theorem fits_any (h : Ent S w v x) (hb : Bnd x) (n : Int) : Calls Tryd.prog 16 #[v, .int .i64 n] w fun e w' => e = .returned (.bool (fitsP x n)) ∧ Below w.heap.size w w' := by
  obtain ⟨k, hk⟩ := (fits_ev x n hb).rounds
  obtain ⟨vn, vf, vb, rfl, ⟨An, cn, rfl, hcn, hrn⟩, ⟨Af, cf, rfl, hcf, hrf⟩, ⟨Ab, cb, rfl, hcb, hrb⟩⟩ := h
  exact entry_Entry_Fits.calls k x.key x.second An cn x.names x.asked x.came x.status Af cf (flds x.fields) Ab cb x.body x.gen n _ w (hrn w (Only.refl _ _)) hcn (hrf w (Only.refl _ _)) hcf (hrb w (Only.refl _ _)) hcb hk
theorem enc_any (h : Ent S w v x) (hb : Bnd x) (n : Int) : Calls Tryd.prog 13 #[.int .i64 n, v] w fun e w' => ∃ vb, e = .returned (.tuple #[vb, .int .i64 (encP n x).2]) ∧ Kd.R (Kd.int .u8) 5 w' w.heap.size (fun _ => True) vb (encP n x).1 ∧ Below w.heap.size w w' := by
  obtain ⟨k, hk⟩ := (enc_ev n x hb).rounds
  obtain ⟨vn, vf, vb, rfl, ⟨An, cn, rfl, hcn, hrn⟩, ⟨Af, cf, rfl, hcf, hrf⟩, ⟨Ab, cb, rfl, hcb, hrb⟩⟩ := h
  exact entry_Encode.calls k n x.key x.second An cn x.names x.asked x.came x.status Af cf (flds x.fields) Ab cb x.body x.gen (encP n x).1 (encP n x).2 w (hrn w (Only.refl _ _)) hcn (hrf w (Only.refl _ _)) hcf (hrb w (Only.refl _ _)) hcb hk
theorem same_any (h : Ent S w v x) (h2 : Ent S2 w v2 y) (hx : Bnd x) : Calls Tryd.prog 22 #[v, v2] w fun e w' => e = .returned (.bool (sameP x y)) ∧ Below w.heap.size w w' := by
  obtain ⟨k, hk⟩ := (same_ev x y hx).rounds
  obtain ⟨vn, vf, vb, rfl, ⟨An, cn, rfl, hcn, hrn⟩, ⟨Af, cf, rfl, hcf, hrf⟩, ⟨Ab, cb, rfl, hcb, hrb⟩⟩ := h
  obtain ⟨vn2, vf2, vb2, rfl, ⟨An2, cn2, rfl, hcn2, hrn2⟩, ⟨Af2, cf2, rfl, hcf2, hrf2⟩, ⟨Ab2, cb2, rfl, hcb2, hrb2⟩⟩ := h2
  exact (entry_Same.calls k x.key x.second An cn x.names x.asked x.came x.status Af cf (flds x.fields) Ab cb x.body x.gen y.key y.second An2 cn2 y.names y.asked y.came y.status Af2 cf2 (flds y.fields) Ab2 cb2 y.body y.gen _ w (hrn w (Only.refl _ _)) hcn (hrf w (Only.refl _ _)) hcf (hrb w (Only.refl _ _)) hcb (hrn2 w (Only.refl _ _)) hcn2 (hrf2 w (Only.refl _ _)) hcf2 (hrb2 w (Only.refl _ _)) hcb2 hk)
/-- Bytes are decoded. -/
theorem dec_any {A : Option Addr} {c : Nat} {l : List Int} (hr : ReadB w A l.length l) (hc : l.length ≤ c) (hrng : ∀ x ∈ l, 0 ≤ x ∧ x < 256) : Calls Tryd.prog 19 #[.slice A l.length c] w fun e w' => ∃ v, e = .returned (.tuple #[v, .int .i64 (decP l).2.1, .int .i64 (decP l).2.2]) ∧ Ent (fun k => k < w.heap.size) w' v (decP l).1 ∧ Below w.heap.size w w' := by
  obtain ⟨k, hk⟩ := (dec_ev l hrng).rounds
  refine (Decode_any k hr hc hrng hk).mono ?_
  rintro e w' ⟨vn, vf, vb, rfl, h1, h2, h3, hb⟩
  exact ⟨_, rfl, ⟨vn, vf, vb, rfl, h1, h2, h3⟩, hb⟩
theorem nine {w' : World} {g : Nat} {a0 a1 a2 a3 a4 a5 a6 a7 a8 : Value} {T : TypeId} {fr : Nat × Nat} (h : w'.heap[g]? = some (.cells #[a0, a1, a2, a3, a4, a5, a6, a7, a8] T fr)) :
    w'.cell? ⟨g, 0, none⟩ = some a0 ∧ w'.cell? ⟨g, 1, none⟩ = some a1 ∧ w'.cell? ⟨g, 2, none⟩ = some a2 ∧ w'.cell? ⟨g, 3, none⟩ = some a3 ∧ w'.cell? ⟨g, 4, none⟩ = some a4 ∧ w'.cell? ⟨g, 5, none⟩ = some a5 ∧ w'.cell? ⟨g, 6, none⟩ = some a6 ∧ w'.cell? ⟨g, 7, none⟩ = some a7 ∧ w'.cell? ⟨g, 8, none⟩ = some a8 := by
  refine ⟨?_, ?_, ?_, ?_, ?_, ?_, ?_, ?_, ?_⟩ <;> rw [cell_of_row _ _ _ _ _ _ h] <;> rfl
end
end Go.Proofs.YtllnleokjcimhaaDoor.En
