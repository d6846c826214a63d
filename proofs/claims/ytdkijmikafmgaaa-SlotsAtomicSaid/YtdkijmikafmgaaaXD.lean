/-
The journal that is found and opened.
-/
import Derived.Test.YtdkijmikafmgaaaXC
import Derived.Lib.Bytes
namespace Go.Proofs.Ytdkijmikafmgaaa.Dk
open Go.RowKit Go.Maps Go.Proofs.YtdkijmikafmgaaaW.PrintWords Go.Proofs.YtdkijmikafmgaaaW.PrintLast Go.Proofs.YtdkijmikafmgaaaW.PrintMore
set_option linter.unusedVariables false
set_option linter.unusedSimpArgs false

section
variable {w : World} {L : DL} {D : PD} {q : Nat} {br : Bool} {S : Nat → Prop}
/-- What 'found' comes to. -/
def FoundTo (w : World) (r : List Ch × Int) (e : Ending) (w' : World) : Prop :=
  ∃ A c, e = .returned (.tuple #[.slice A r.1.length c, .int .i64 r.2]) ∧ (∀ S : Nat → Prop, (∀ k, S k → k < w.heap.size) → Chs S w' A r.1) ∧ Below w.heap.size w w'
theorem FoundTo.none {w' : World} {r : List Ch × Int} {n : Int} (h : r = ([], n)) (hb : Below w.heap.size w w') : FoundTo w r (.returned (.tuple #[.slice none 0 0, .int .i64 n])) w' := by
  subst h
  refine ⟨Option.none, 0, rfl, fun S hS => ⟨[], rfl, fun _ _ => ⟨rfl, by simp, fun h => absurd h (by simp)⟩, fun j v x hv => by simp at hv⟩, hb⟩
theorem PD.read_full {D : PD} (hg : D.Good) {i : Int} {h : List Int} (hr : D.read i = (h, 0)) : h = D.now i.toNat ∧ h.length = 64 := by
  unfold PD.read at hr
  split at hr
  · injection hr with _ hr; exact absurd hr (by decide)
  · split at hr
    · injection hr with _ hr; exact absurd hr (by decide)
    · split at hr
      · injection hr with _ hr; exact absurd hr (by decide)
      · injection hr with hr _
        subst hr
        exact ⟨rfl, PD.now_length hg _⟩
theorem C_take {w : World} {A : Option Addr} {l : List Int} (h : ReadB w A l.length l) {m : Nat} (hm : m ≤ l.length) : ReadB w A m (l.take m) := by
  refine ⟨by rw [List.length_take]; omega, by have := h.2.1; omega, fun hp => ?_⟩
  obtain ⟨ad, e, hc⟩ := h.2.2 (by omega)
  exact ⟨ad, e, fun j x hx => hc j x (by
    have hj := (List.getElem?_eq_some_iff.1 hx).1
    rw [List.length_take] at hj
    rwa [List.getElem?_take_of_lt (by omega)] at hx)⟩
theorem or_bytes (x y : Int) (hx : 0 ≤ x ∧ x < 256) (hy : 0 ≤ y ∧ y < 256) : bits BinOp.or IntKind.i64 (x * 256) y = x * 256 + y := by
  obtain ⟨m, rfl⟩ := Int.eq_ofNat_of_zero_le hx.1
  obtain ⟨n, rfl⟩ := Int.eq_ofNat_of_zero_le hy.1
  have e : ((m : Int) * 256) = ((m * 256 : Nat) : Int) := by omega
  have h1 : m * 256 ||| n = m * 256 + n := by
    rw [show m * 256 = m <<< 8 from by rw [Nat.shiftLeft_eq], ← Nat.shiftLeft_add_eq_or_of_lt (by omega)]
  rw [e]
  show IntKind.i64.wrap ((BitVec.ofInt 64 ((m * 256 : Nat) : Int) ||| BitVec.ofInt 64 (n : Int)).toNat : Int) = _
  have e1 : ∀ a : Nat, a < 18446744073709551616 → (BitVec.ofInt 64 (a : Int)).toNat = a := fun a ha => by
    rw [BitVec.ofInt_natCast, BitVec.toNat_ofNat]; exact Nat.mod_eq_of_lt (by omega)
  rw [BitVec.toNat_or, e1 _ (by omega), e1 _ (by omega), h1, IntWalk.i64_in _ (by omega)]
  omega
def tailOf (D : PD) (h : List Int) (r : List (List Int) × Int) : List Ch × Int :=
  if r.2 ≠ 0 then ([], r.2) else if rightOf ((D.n : Int) - 100) (PD.told r.1) = false then ([], 0) else if strOfNums (headOf (PD.told r.1)) ≠ strOfNums h then ([], 0) else (PD.told r.1, 0)
/-- The first sectors of m have been read. -/
structure Gets (D : PD) (got : List (List Int)) (m : Nat) : Prop where
  rest : D.reads 1 m = if (D.reads (1 + (got.length : Int)) (m - got.length)).2 = 0 then (got ++ (D.reads (1 + (got.length : Int)) (m - got.length)).1, 0) else ([], (D.reads (1 + (got.length : Int)) (m - got.length)).2)
  each : ∀ (i : Nat) b, got[i]? = some b → (b, (0 : Int)) = D.read (1 + (i : Int))
theorem PD.reads_pair (D : PD) (m : Nat) : ∀ k, (D.reads k m) = if (D.reads k m).2 = 0 then ((D.reads k m).1, 0) else ([], (D.reads k m).2) := by
  intro k
  cases m with
  | zero => rfl
  | succ m =>
    unfold PD.reads
    split
    · split
      · rfl
      · rfl
    · rfl
theorem Gets.start (D : PD) (m : Nat) : Gets D [] m := ⟨PD.reads_pair D m 1, fun i b h => by simp at h⟩
theorem Gets.snoc {D : PD} {got : List (List Int)} {m j : Nat} (h : Gets D got m) (hj : got.length = j) (hlt : j < m) (he : (D.read (1 + (j : Int))).2 = 0) : Gets D (got ++ [(D.read (1 + (j : Int))).1]) m := by
  subst hj
  refine ⟨?_, fun i b hb => ?_⟩
  · rw [h.rest]
    obtain ⟨k, hk⟩ : ∃ k, m - got.length = k + 1 := ⟨m - got.length - 1, by omega⟩
    have e1 : m - (got ++ [(D.read (1 + (got.length : Int))).1]).length = k := by simp; omega
    have e2 : (1 + ((got ++ [(D.read (1 + (got.length : Int))).1]).length : Int)) = 1 + (got.length : Int) + 1 := by simp; omega
    rw [e1, e2, hk]
    have e3 : D.reads (1 + (got.length : Int)) (k + 1) = if (D.reads (1 + (got.length : Int) + 1) k).2 = 0 then ((D.read (1 + (got.length : Int))).1 :: (D.reads (1 + (got.length : Int) + 1) k).1, 0) else ([], (D.reads (1 + (got.length : Int) + 1) k).2) := by
      show (if _ then _ else _) = _
      rw [if_pos he]
    rw [e3]
    by_cases hz : (D.reads (1 + (got.length : Int) + 1) k).2 = 0
    · rw [if_pos hz, if_pos rfl, if_pos hz]; simp
    · rw [if_neg hz, if_neg hz, if_neg hz]
  · rcases Nat.lt_trichotomy i got.length with hi | hi | hi
    · rw [List.getElem?_append_left hi] at hb; exact h.each i b hb
    · subst hi
      rw [List.getElem?_append_right (Nat.le_refl _), Nat.sub_self] at hb
      obtain rfl := Option.some.inj hb
      exact Prod.ext rfl he.symm
    · rw [List.getElem?_eq_none (by simp; omega)] at hb; cases hb
theorem Gets.fail {D : PD} {got : List (List Int)} {m j : Nat} (h : Gets D got m) (hj : got.length = j) (hlt : j < m) (he : ¬ (D.read (1 + (j : Int))).2 = 0) : D.reads 1 m = ([], (D.read (1 + (j : Int))).2) := by
  subst hj
  rw [h.rest]
  obtain ⟨k, hk⟩ : ∃ k, m - got.length = k + 1 := ⟨m - got.length - 1, by omega⟩
  rw [hk]
  unfold PD.reads
  rw [if_neg he, if_neg he]
theorem Gets.done {D : PD} {got : List (List Int)} {m : Nat} (h : Gets D got m) (hj : got.length = m) : D.reads 1 m = (got, 0) := by
  rw [h.rest, hj, Nat.sub_self]
  have e : ∀ k, D.reads k 0 = ([], 0) := fun _ => rfl
  rw [e, if_pos rfl, List.append_nil]
theorem getD_of {l : List Int} {i : Nat} {x d : Int} (h : l[i]? = some x) : l.getD i d = x := by rw [List.getD_eq_getElem?_getD, h]; rfl
def placed3 (got : List (List Int)) (i : Nat) : Int := PD.placed (got.getD 0 [] ++ got.getD 1 [] ++ got.getD 2 []) i
theorem placed3_at (got : List (List Int)) (h : ∀ i, i < 3 → (got.getD i []).length = 64) {i k m : Nat} (hi : i = 32 * k + m) (hm : m < 32) (hk : k < 3) : placed3 got i = (got.getD k []).getD (2 * m) 0 * 256 + (got.getD k []).getD (2 * m + 1) 0 := by
  have h0 := h 0 (by omega)
  have h1 := h 1 (by omega)
  have h2 := h 2 (by omega)
  unfold placed3 PD.placed
  generalize ha : got.getD 0 [] = a at *
  generalize hb : got.getD 1 [] = b at *
  have key : ∀ j, j < 64 → (a ++ b ++ got.getD 2 []).getD (64 * k + j) 0 = (got.getD k []).getD j 0 := by
    intro j hj
    simp only [List.getD_eq_getElem?_getD (l := a ++ b ++ _), List.getD_eq_getElem?_getD (l := got.getD k [])]
    have hc : k = 0 ∨ k = 1 ∨ k = 2 := by omega
    rcases hc with rfl | rfl | rfl
    · rw [List.append_assoc, List.getElem?_append_left (by omega), ha, show 64 * 0 + j = j from by omega]
    · rw [List.append_assoc, List.getElem?_append_right (by omega), List.getElem?_append_left (by omega), hb, show 64 * 1 + j - a.length = j from by omega]
    · rw [List.getElem?_append_right (by simp; omega), show 64 * 2 + j - (a ++ b).length = j from by simp; omega]
  have e1 := key (2 * m) (by omega)
  have e2 := key (2 * m + 1) (by omega)
  rw [show 2 * i = 64 * k + 2 * m from by omega, e1, show 64 * k + 2 * m + 1 = 64 * k + (2 * m + 1) from by omega, e2]
def Told (w : World) (base : Nat) (got : List (List Int)) (vs : List (Int × SV)) : Prop := ∀ (i : Nat) v b, vs[i]? = some v → got[3 + i]? = some b → v.1 = placed3 got i ∧ BRow w base v.2 b
theorem Told.snoc {w : World} {base : Nat} {got : List (List Int)} {vs : List (Int × SV)} (h : Told w base got vs) {j : Nat} (hj : vs.length = j) {b : List Int} (hx : got[3 + j]? = some b) {n : Int} (hn : n = placed3 got j) {s : SV} (hs : BRow w base s b) : Told w base got (vs ++ [(n, s)]) := by
  intro i v y hv hy
  rcases Nat.lt_trichotomy i vs.length with hi | hi | hi
  · rw [List.getElem?_append_left hi] at hv; exact h i v y hv hy
  · subst hi; subst hj
    rw [List.getElem?_append_right (Nat.le_refl _), Nat.sub_self] at hv
    obtain rfl := Option.some.inj hv
    rw [hx] at hy
    obtain rfl := Option.some.inj hy
    exact ⟨hn, hs⟩
  · rw [List.getElem?_eq_none (by simp; omega)] at hv; cases hv
theorem told_length (got : List (List Int)) : (PD.told got).length = got.length - 3 := by unfold PD.told; rw [List.length_map, List.length_range]
theorem told_at {got : List (List Int)} {j : Nat} {x : Ch} (h : (PD.told got)[j]? = some x) : ∃ b, got[3 + j]? = some b ∧ x = (placed3 got j, b) := by
  have hj : j < got.length - 3 := by have := (List.getElem?_eq_some_iff.1 h).1; rwa [told_length] at this
  have hx : got[3 + j]? = some got[3 + j] := List.getElem?_eq_getElem (by omega)
  refine ⟨_, hx, ?_⟩
  unfold PD.told at h
  rw [List.getElem?_map, List.getElem?_range hj] at h
  have h := (Option.some.inj h).symm
  rw [h]
  show (PD.placed (got.getD 0 [] ++ got.getD 1 [] ++ got.getD 2 []) j, got.getD (3 + j) []) = _
  have e : got.getD (3 + j) [] = got[3 + j] := by rw [List.getD_eq_getElem?_getD, hx]; rfl
  rw [e]; rfl
theorem info_ch1 : (Try.prog.info? 111).map (fun i => (i.zero, i.size)) = some (some (.agg #[.int .i64 0, .slice none 0 0]), 2) := by kernel_rfl
/-- A slice literal of one change. -/
theorem build_ch (W : World) (x : Int) (A : Option Addr) (n c : Nat) : (Instr.buildSlice 79 1 #[(0, .agg #[.int .i64 x, .slice A n c])]).run Try.prog W = .ok (.slice (some ⟨W.heap.size, 0, none⟩) 1 1) (W.alloc (.cells #[.int .i64 x, .slice A n c] 111)) := by
  obtain ⟨ie, hie, hzz⟩ := Option.map_eq_some_iff.1 info_ch1
  simp only [Prod.mk.injEq] at hzz
  obtain ⟨hz, hs⟩ := hzz
  refine run_buildSlice W 79 111 1 _ #[.int .i64 x, .slice A n c] ie (.agg #[.int .i64 0, .slice none 0 0]) Try.underlying79 hie hz (by rw [hs]; decide) (by rw [hs]; decide) ?_
  rw [hs]
  first | kernel_rfl | (simp [Instr.fill, Array.range]; done)
theorem str_ne {a b : List Int} (h : strOfNums a ≠ strOfNums b) : ((strOfNums a).toList == (strOfNums b).toList) = false := by
  rw [Lib.strOfNums_toList, Lib.strOfNums_toList, beq_eq_false_iff_ne]
  intro e
  apply h
  unfold strOfNums
  congr 2
theorem row_cell {w : World} {base g n c : Nat} {ok : Nat → Prop} {vs : List SV} (h : Kd.R slK 37 w base ok (.slice (some ⟨g, 0, none⟩) n c) vs) {j : Nat} {s : SV} (hj : vs[j]? = some s) : w.cell? ⟨g, j, none⟩ = some s.v ∧ g < w.heap.size := by
  have ho := Kd.own_of_R h
  obtain ⟨cells, hc⟩ := own_typed ho g (by simp [Value.ownBlock])
  refine ⟨?_, (Array.getElem?_eq_some_iff.1 hc).1⟩
  have := ho.cells (g := g) rfl j s.v (by simp [encs, hj])
  rwa [Addr.add_mid, Nat.zero_add] at this
set_option maxHeartbeats 4000000 in
set_option maxRecDepth 1000000 in
theorem found_any (hd : IsDisk w L D) (hr : IsRedo w q L br) (hlow : D.Low) :
    Calls Try.prog 40 #[.pointer (some ⟨q, 0, none⟩)] w (FoundTo w D.found) := by
  have c0 := hr.c0
  have HD := Fact.mk hd
  have HR := Fact.mk hr
  have HQ := Fact.mk (hr.apart hd)
  have hn := hd.good.most
  have HLow := Fact.mk hlow
  have HF : Fact (D.found = if (D.read 0).2 ≠ 0 then ([], (D.read 0).2) else if (strOfNums ((D.read 0).1.take 2)).toList ≠ [82, 68] then ([], 0) else
    if (D.read 0).1.getD 2 0 * 256 + (D.read 0).1.getD 3 0 < 1 ∨ 96 < (D.read 0).1.getD 2 0 * 256 + (D.read 0).1.getD 3 0 then ([], 0) else
    if (D.reads 1 (3 + ((D.read 0).1.getD 2 0 * 256 + (D.read 0).1.getD 3 0).toNat)).2 ≠ 0 then ([], (D.reads 1 (3 + ((D.read 0).1.getD 2 0 * 256 + (D.read 0).1.getD 3 0).toNat)).2) else
    if rightOf (D.n - 100) (PD.told (D.reads 1 (3 + ((D.read 0).1.getD 2 0 * 256 + (D.read 0).1.getD 3 0).toNat)).1) = false then ([], 0) else
    if strOfNums (headOf (PD.told (D.reads 1 (3 + ((D.read 0).1.getD 2 0 * 256 + (D.read 0).1.getD 3 0).toNat)).1)) ≠ strOfNums (D.read 0).1 then ([], 0) else (PD.told (D.reads 1 (3 + ((D.read 0).1.getD 2 0 * 256 + (D.read 0).1.getD 3 0).toNat)).1, 0)) := ⟨rfl⟩
  have HL0 := Fact.mk (fun h (hh : D.read 0 = (h, 0)) => (PD.read_full hd.good hh))
  clear hd hr hlow
  go_enter Try.func40, Try.ntmps40
  go_wp2_with fail
  refine (Read_any HD.out 0).mono ?_
  rintro e w1 ⟨v, rfl, r1, b1⟩
  obtain ⟨A4, c4, rfl, hc4, -⟩ := Kd.R_reads r1
  have R1 := Fact.mk r1
  have B1 := Fact.mk b1
  clear r1 b1
  generalize D.read 0 = r0 at *
  obtain ⟨h, e0⟩ := r0
  dsimp only at *
  by_cases he : e0 = 0
  · subst he
    obtain ⟨hnow, hlen⟩ := HL0.out h rfl
    rw [hlen] at hc4 ⊢
    have HNow := Fact.mk hnow
    have HLen := Fact.mk hlen
    clear hnow hlen HL0
    have hcv : (convert 37 9 (.slice A4 2 c4)).run Try.prog w1 = .ok (.string (strOfNums (h.take 2))) w1 :=
      Kd.C_string Try.underlying37 Try.underlying5 Try.underlying9 (C_take (own_reads_ R1.out).2.2 (m := 2) (by have := HLen.out; omega))
    by_cases hm : (strOfNums (h.take 2)).toList = [82, 68]
    · have HF2 := HF.out
      rw [if_neg (by simp), if_neg (by simp [hm])] at HF2
      replace HF2 := Fact.mk HF2
      clear HF
      generalize strOfNums (h.take 2) = s0 at *
      replace hm := Fact.mk hm
      have hq : (s0.toList == [82, 68]) = true := by rw [hm.out]; rfl
      go_wp2_with fail
      clear hq hcv
      obtain ⟨g4, c4', e4, -, -⟩ := (Kd.own_of_R R1.out).form (by rw [HLen.out]; decide)
      injection e4 with e4 _ e5
      subst e4 e5
      have hx2 : h[2]? = some (h.getD 2 0) := by rw [List.getD_eq_getElem?_getD, List.getElem?_eq_getElem (by rw [HLen.out]; decide)]; rfl
      have hx3 : h[3]? = some (h.getD 3 0) := by rw [List.getD_eq_getElem?_getD, List.getElem?_eq_getElem (by rw [HLen.out]; decide)]; rfl
      have k2 := own_cell R1.out 2 _ hx2
      have k3 := own_cell R1.out 3 _ hx3
      have r2 : 0 ≤ h.getD 2 0 ∧ h.getD 2 0 < 256 := HLow.out 0 (by decide) _ (by have e : D.now 0 = h := HNow.out.symm; rw [e]; exact List.mem_of_getElem? hx2)
      have r3 : 0 ≤ h.getD 3 0 ∧ h.getD 3 0 < 256 := HLow.out 0 (by decide) _ (by have e : D.now 0 = h := HNow.out.symm; rw [e]; exact List.mem_of_getElem? hx3)
      clear hx2 hx3
      generalize h.getD 2 0 = y2 at *
      generalize h.getD 3 0 = y3 at *
      obtain ⟨r20, r21⟩ := r2
      obtain ⟨r30, r31⟩ := r3
      refine region_tail 10 (by kernel_rfl) (by kernel_rfl) ?_
      intro W hW
      have BW : Fact (Below w.heap.size w W) := by subst hW; exact ⟨B1.out.drew⟩
      have RW : Fact (OwnB W w.heap.size (fun k => w.heap.size ≤ k) (.slice (some ⟨g4, 0, none⟩) h.length c4) h) := by subst hW; exact ⟨Kd.R_drew R1.out⟩
      replace k2 : W.cell? ⟨g4, 2, none⟩ = some (.int .u8 y2) := by subst hW; exact k2
      replace k3 : W.cell? ⟨g4, 3, none⟩ = some (.int .u8 y3) := by subst hW; exact k3
      clear hW B1 R1
      clear w1
      simp only [List.take_succ_cons, List.take_zero, List.drop_succ_cons, List.drop_zero]
      iterate 10 still_step
      refine wpStill_nil ?_
      rw [show IntKind.i64.wrap y2 = y2 from IntWalk.i64_in _ (by omega), show IntKind.i64.wrap y3 = y3 from IntWalk.i64_in _ (by omega), show IntKind.i64.wrap (y2 * 256) = y2 * 256 from IntWalk.i64_in _ (by omega), or_bytes y2 y3 ⟨r20, r21⟩ ⟨r30, r31⟩]
      obtain ⟨N, hN⟩ := Int.eq_ofNat_of_zero_le (show 0 ≤ y2 * 256 + y3 by omega)
      rw [hN] at HF2 ⊢
      clear k2 k3 hN r20 r21 r30 r31
      by_cases hb : (N : Int) < 1 ∨ 96 < (N : Int)
      · have HF3 := HF2.out
        rw [if_pos hb] at HF3
        replace HF3 := Fact.mk HF3
        clear HF2
        by_cases hb1 : (N : Int) < 1
        · go_wp2_with fail
          go_ret2
          exact FoundTo.none HF3.out BW.out
        · have hb2 : 96 < (N : Int) := by omega
          clear hb
          go_wp2_with fail
          go_ret2
          exact FoundTo.none HF3.out BW.out
      · have HF3 : Fact (D.found = tailOf D h (D.reads 1 (3 + N))) := ⟨by have := HF2.out; rw [if_neg hb, Int.toNat_natCast] at this; exact this⟩
        have hb1 : ¬ (N : Int) < 1 := by omega
        have hb2 : ¬ 96 < (N : Int) := by omega
        clear HF2 hb
        have I0 : Fact (∃ vs got, got.length = 0 ∧ Kd.R slK 37 W w.heap.size (fun k => w.heap.size ≤ k) (.slice none 0 0) vs ∧ BRows W w.heap.size vs got ∧ Gets D got (3 + N)) := ⟨[], [], rfl, Kd.R_nil _ _ _ _ _, ⟨rfl, fun i s b h => by simp at h⟩, Gets.start D _⟩
        have U0 : Fact (U8 W W) := ⟨U8.refl _⟩
        go_wp2_with fail
        go_loopw [7, 50] (fun v7 v50 wr => ∃ j : Nat, v50 = .int .i64 (j : Int) ∧ j ≤ 3 + N ∧ Fact (∃ vs got, got.length = j ∧ Kd.R slK 37 wr w.heap.size (fun k => w.heap.size ≤ k) v7 vs ∧ BRows wr w.heap.size vs got ∧ Gets D got (3 + N)) ∧ Fact (Below w.heap.size w wr) ∧ Fact (U8 W wr)) (fun _ v _ => 3 + N - (intOf v).toNat)
        case atStart => exact ⟨0, rfl, Nat.zero_le _, I0, BW, U0⟩
        case round =>
          obtain ⟨j, rfl, hj, R1, R2, R3⟩ := hrel
          clear I0 U0
          obtain ⟨vs, got, hgl, hR, hRows, hGets⟩ := R1.out
          obtain ⟨A7, c7, rfl⟩ := Kd.R_slice hR
          have hvl : vs.length = j := hRows.1.trans hgl
          rw [hvl] at hR ⊢
          have HV := Fact.mk hR
          have HRows := Fact.mk hRows
          have HGets := Fact.mk hGets
          replace hvl := Fact.mk hvl
          have hbase : w.heap.size ≤ wr.heap.size := R2.out.size
          clear R1 hR hRows hGets
          by_cases hlt : j < 3 + N
          · have hlt2 : (j : Int) < 3 + (N : Int) := by omega
            have cq := (HR.out.only (Only.of_below R2.out L.S) HQ.out).c0
            go_wp2_with fail
            refine (Read_any (HD.out.below R2.out) (1 + (j : Int))).mono ?_
            rintro e w3 ⟨v, rfl, r3, b3⟩
            obtain ⟨A9, c9, rfl, hc9, -⟩ := Kd.R_reads r3
            have R9 := Fact.mk r3
            have B9 := Fact.mk b3
            have B3 := Fact.mk (next_new R2.out b3)
            have HRd : Fact (∃ rd, D.read (1 + (j : Int)) = rd) := ⟨_, rfl⟩
            clear r3 b3 cq
            by_cases he : (D.read (1 + (j : Int))).2 = 0
            · have HG2 := Fact.mk (HGets.out.snoc hgl (by omega) he)
              have hl64 : (D.read (1 + (j : Int))).1.length = 64 := (PD.read_full HD.out.good (i := 1 + (j : Int)) (h := (D.read (1 + (j : Int))).1) (by rw [← he])).2
              rw [hl64] at R9 hc9 ⊢
              rw [he]
              have RB := Fact.mk ((BRow.of_own R9.out (by rw [hl64]; decide)).lower hbase)
              generalize (D.read (1 + (j : Int))).1 = b at *
              clear he HRd R9
              have HV3 := Fact.mk (Kd.R_below (Kd.R_mono HV.out (fun _ h => h)) B9.out)
              have HRows3 := Fact.mk (HRows.out.u8 (U8.of_below B9.out))
              go_wp2_with ((with_reducible refine gate_builtin (b := .append) (xs := #[.tmp 66, .tmp 68]) rfl ?_); at_builtin; refine Fact.out (p := _) ?_)
              refine Fact.mk ?_
              refine Kd.R_append slK (w0 := w) w.heap.size rfl (.tmp 66) (.tmp 68) 72 37 (.slice none 0 0) 24 rfl Try.underlying72 info_sl rfl (by decide) (by decide) (.slice A7 j c7) vs ⟨A9, 64, c9⟩ [.slice A9 64 c9] (fun k => w.heap.size ≤ k) (fun _ => False) rfl rfl rfl (fun _ h => h.elim) ?aF ?aO ?aB ?aS ?aL ?_
              case aF => intro k hk; have := B3.out.size; omega
              case aO => exact HV3.out
              case aB => exact B3.out
              case aS => exact B3.out.size
              case aL => rw [hvl.out]; omega
              intro v1 w5 ho hb hg hat
              have HO := Fact.mk ho
              have HB5 := Fact.mk hb
              have HU : Fact (U8 w3 w5) := ⟨U8.of_grown hg HV3.out (by decide)⟩
              clear ho hb hg hat
              go_wp2_with fail
              exact ⟨⟨j + 1, by go_num, by omega, ⟨_, _, by simp [hgl], HO.out, (HRows3.out.u8 HU.out).snoc ((RB.out.u8 HU.out)), HG2.out⟩, HB5, ⟨(R3.out.trans (U8.of_below B9.out)).trans HU.out⟩⟩, by simp [intOf]; omega⟩
            · have HG2 := Fact.mk (HGets.out.fail hgl (by omega) he)
              have HF4 : Fact (D.found = ([], (D.read (1 + (j : Int))).2)) := ⟨by rw [HF3.out, HG2.out]; exact if_pos he⟩
              generalize (D.read (1 + (j : Int))) = r at *
              obtain ⟨rb, re⟩ := r
              have he : ¬ re = 0 := he
              go_wp2_with fail
              go_ret2
              exact FoundTo.none HF4.out B3.out
          · have he : j = 3 + N := by omega
            subst he
            have hlt2 : ¬ (3 + (N : Int) < 3 + (N : Int)) := by omega
            have HG := HGets.out.done hgl
            have HF4 := HF3.out
            rw [HG] at HF4
            replace HF4 := Fact.mk HF4
            have Heach := Fact.mk HGets.out.each
            have RH := Fact.mk (Kd.R_below RW.out (Below.refl _ _))
            clear HF3 HGets HG
            obtain ⟨w3, hw3⟩ : ∃ w3, w3 = wr := ⟨_, rfl⟩
            subst hw3
            obtain ⟨g7, c7', e7, -, -⟩ := (Kd.own_of_R HV.out).form (by rw [hvl.out]; omega)
            injection e7 with e7 e9 e8
            clear e9
            subst e7 e8
            have hc7 : 3 + N ≤ c7 := by
              obtain ⟨_, _, e, h2, -⟩ := Kd.R_reads HV.out
              injection e with _ _ e
              subst e
              rw [hvl.out] at h2
              exact h2
            go_wp2_with fail
            have hgN : Fact (∀ i, i < 3 + N → (got.getD i []).length = 64 ∧ got[i]? = some (got.getD i [])) := ⟨fun i hi => by
              have hx : got[i]? = some got[i] := List.getElem?_eq_getElem (by omega)
              have e : got.getD i [] = got[i] := by rw [List.getD_eq_getElem?_getD, hx]; rfl
              rw [e]
              exact ⟨(PD.read_full HD.out.good (Heach.out i _ hx).symm).2, hx⟩⟩
            have hgL : Fact (∀ i, i < 3 → ∀ x ∈ got.getD i [], 0 ≤ x ∧ x < 256) := ⟨fun i hi x hx => by
              obtain ⟨h1, h2⟩ := hgN.out i (by omega)
              have h3 := (PD.read_full HD.out.good (Heach.out i _ h2).symm).1
              have h4 : (1 + (i : Int)).toNat = 1 + i := by omega
              rw [h4] at h3
              exact HLow.out (1 + i) (by omega) x (by rw [← h3]; exact hx)⟩
            have I2 : Fact (∃ vs2, vs2.length = 0 ∧ Kd.R chK 111 w3 w3.heap.size (fun k => w3.heap.size ≤ k) (.slice none 0 0) vs2 ∧ Told w3 w.heap.size got vs2) := ⟨[], rfl, Kd.R_nil _ _ _ _ _, fun i v b h => by simp at h⟩
            go_loopw [11, 74] (fun v11 v74 wr => ∃ i : Nat, v74 = .int .i64 (i : Int) ∧ i ≤ N ∧ Fact (∃ vs2, vs2.length = i ∧ Kd.R chK 111 wr w3.heap.size (fun k => w3.heap.size ≤ k) v11 vs2 ∧ Told w3 w.heap.size got vs2) ∧ Fact (Below w3.heap.size w3 wr)) (fun _ v _ => N - (intOf v).toNat)
            case atStart => exact ⟨0, rfl, Nat.zero_le _, I2, ⟨Below.refl _ _⟩⟩
            case round =>
              obtain ⟨i, rfl, hi, T1, T2⟩ := hrel
              clear I2
              obtain ⟨vs2, hv2, hT, hTold⟩ := T1.out
              obtain ⟨A11, c11, rfl⟩ := Kd.R_slice hT
              rw [hv2] at hT ⊢
              have HT := Fact.mk hT
              have HTold := Fact.mk hTold
              replace hv2 := Fact.mk hv2
              have hbase3 : w3.heap.size ≤ wr.heap.size := T2.out.size
              clear T1 hT hTold
              by_cases hlt3 : i < N
              · have hlt4 : (i : Int) < (N : Int) := by omega
                obtain ⟨k, m, hk, hm2⟩ : ∃ k m, i = 32 * k + m ∧ m < 32 := ⟨i / 32, i % 32, by omega, by omega⟩
                have hk3 : k < 3 := by omega
                obtain ⟨hn1, hx1⟩ := hgN.out (3 + i) (by omega)
                obtain ⟨hn2, hx2⟩ := hgN.out k (by omega)
                have hr2 := hgL.out k hk3
                have hgk : Fact (placed3 got i = (got.getD k []).getD (2 * m) 0 * 256 + (got.getD k []).getD (2 * m + 1) 0) := ⟨placed3_at got (fun i hi => (hgN.out i (by omega)).1) hk hm2 hk3⟩
                obtain ⟨⟨A1, n1, c1⟩, hs1⟩ : ∃ s, vs[3 + i]? = some s := ⟨_, List.getElem?_eq_getElem (by rw [hvl.out]; omega)⟩
                obtain ⟨⟨A2, n2, c2⟩, hs2⟩ : ∃ s, vs[k]? = some s := ⟨_, List.getElem?_eq_getElem (by rw [hvl.out]; omega)⟩
                have b1 := HRows.out.2 _ _ _ hs1 hx1
                have b2 := HRows.out.2 _ _ _ hs2 hx2
                have q1 : wr.cell? ⟨g7, 3 + i, none⟩ = some (.slice A1 64 c1) := (T2.out.cell (p := ⟨g7, 3 + i, none⟩) (row_cell HV.out hs1).2).trans (by rw [(row_cell HV.out hs1).1, SV.v]; have := b1.n; dsimp only at this ⊢; rw [this, hn1])
                have q2 : wr.cell? ⟨g7, k, none⟩ = some (.slice A2 64 c2) := (T2.out.cell (p := ⟨g7, k, none⟩) (row_cell HV.out hs2).2).trans (by rw [(row_cell HV.out hs2).1, SV.v]; have := b2.n; dsimp only at this ⊢; rw [this, hn2])
                have hcc2 : 64 ≤ c2 := by have := b2.c; rw [hn2] at this; exact this
                obtain ⟨gk, off, cs, hA2, -, hblk, hcs⟩ := b2.at_
                dsimp only at hA2
                subst hA2
                obtain ⟨x0, hx0⟩ : ∃ x, (got.getD k [])[2 * m]? = some x := ⟨_, List.getElem?_eq_getElem (by rw [hn2]; omega)⟩
                obtain ⟨x1, hx3⟩ : ∃ x, (got.getD k [])[2 * m + 1]? = some x := ⟨_, List.getElem?_eq_getElem (by rw [hn2]; omega)⟩
                have hlk : gk < w3.heap.size := (Array.getElem?_eq_some_iff.1 hblk).1
                have p0 : wr.cell? ⟨gk, off + 2 * m, none⟩ = some (.int .u8 x0) := (T2.out.cell (p := ⟨gk, off + 2 * m, none⟩) hlk).trans (by rw [cell_of_row _ _ _ _ _ _ hblk]; exact hcs _ _ hx0)
                have p1 : wr.cell? ⟨gk, off + 2 * m + 1, none⟩ = some (.int .u8 x1) := (T2.out.cell (p := ⟨gk, off + 2 * m + 1, none⟩) hlk).trans (by rw [cell_of_row _ _ _ _ _ _ hblk]; exact hcs (2 * m + 1) _ hx3)
                obtain ⟨x00, x01⟩ := hr2 x0 (List.mem_of_getElem? hx0)
                obtain ⟨x10, x11⟩ := hr2 x1 (List.mem_of_getElem? hx3)
                have hval : Fact (placed3 got i = x0 * 256 + x1) := ⟨by rw [hgk.out, getD_of hx0, getD_of hx3]⟩
                have hn64 : n1 = 64 := b1.n.trans hn1
                subst hn64
                have HB1 := Fact.mk b1
                have HX1 := Fact.mk hx1
                have HK := Fact.mk hk
                have hq1 : 2 * i / 64 = k := by omega
                have hq2 : 2 * i % 64 = 2 * m := by omega
                clear hk
                clear hgk b1 b2 hx0 hx3 hblk hcs hs1 hs2 hx2 hr2 hx1 hn1 hn2
                go_wp2_with fail
                rw [hq2]
                obtain ⟨r, hr⟩ : ∃ r, 64 - 2 * m = r := ⟨_, rfl⟩
                rw [hr]
                have hz0 : 0 < r := by omega
                have hz1 : (1 : Int) < (r : Int) := by omega
                clear hr
                have hgw : gk < wr.heap.size := Nat.lt_of_lt_of_le hlk hbase3
                skip
                refine start_ (n := 16) (S := fun w' => w'.cell? ⟨gk, off + 2 * m, none⟩ = some (.int .u8 x0) ∧ w'.cell? ⟨gk, off + 2 * m + 1, none⟩ = some (.int .u8 x1)) (ds := [13, 14]) #[false, false, false, false, false, false, false, false, false, false, false, false, false, false, false, false] (by kernel_rfl) rfl rfl ⟨p0, p1⟩ (fun hHeld => ?_)
                have BW2 : Fact (Below w3.heap.size w3 wr.drew) := ⟨T2.out.drew⟩
                have HT2 : Fact (Kd.R chK 111 wr.drew w3.heap.size (fun k => w3.heap.size ≤ k) (.slice A11 i c11) vs2) := ⟨Kd.R_drew HT.out⟩
                clear T2 HT hbase3 q1 q2 p0 p1 hq1 hq2 hgw
                generalize wr.drew = W2 at *
                refine pure_ (i := 0) (N := (some 89)) (v := ?_) (a' := ?_) #[true, false, false, false, false, false, false, false, false, false, false, false, false, false, false, false] rfl rfl (by kernel_rfl) (fun _ _ _ h => h) (Or.inl ⟨by rfl, ?_⟩) ?_ ?_
                rotate_left
                · intro w'
                  go_simp
                  with_reducible rfl
                rotate_left
                · simp only [Act.put, List.setIfInBounds_toArray, List.set_cons_zero, List.set_cons_succ, i64_w, i32_w]
                  rfl
                refine pure_ (i := 1) (N := (some 90)) (v := ?_) (a' := ?_) #[true, true, false, false, false, false, false, false, false, false, false, false, false, false, false, false] rfl rfl (by kernel_rfl) (fun _ _ _ h => h) (Or.inl ⟨by rfl, ?_⟩) ?_ ?_
                rotate_left
                · intro w'
                  go_simp
                  with_reducible rfl
                rotate_left
                · simp only [Act.put, List.setIfInBounds_toArray, List.set_cons_zero, List.set_cons_succ, i64_w, i32_w]
                  rfl
                refine pure_ (i := 2) (N := (some 91)) (v := ?_) (a' := ?_) #[true, true, true, false, false, false, false, false, false, false, false, false, false, false, false, false] rfl rfl (by kernel_rfl) (fun _ _ _ h => h) (Or.inl ⟨by rfl, ?_⟩) ?_ ?_
                rotate_left
                · intro w'
                  go_simp
                  with_reducible rfl
                rotate_left
                · simp only [Act.put, List.setIfInBounds_toArray, List.set_cons_zero, List.set_cons_succ, i64_w, i32_w]
                  rfl
                refine pure_ (i := 6) (N := (some 95)) (v := ?_) (a' := ?_) #[true, true, true, false, false, false, true, false, false, false, false, false, false, false, false, false] rfl rfl (by kernel_rfl) (fun _ _ _ h => h) (Or.inl ⟨by rfl, ?_⟩) ?_ ?_
                rotate_left
                · intro w'
                  go_simp
                  with_reducible rfl
                rotate_left
                · simp only [Act.put, List.setIfInBounds_toArray, List.set_cons_zero, List.set_cons_succ, i64_w, i32_w]
                  rfl
                refine pure_ (i := 7) (N := (some 96)) (v := ?_) (a' := ?_) #[true, true, true, false, false, false, true, true, false, false, false, false, false, false, false, false] rfl rfl (by kernel_rfl) (fun _ _ _ h => h) (Or.inl ⟨by rfl, ?_⟩) ?_ ?_
                rotate_left
                · intro w'
                  go_simp
                  with_reducible rfl
                rotate_left
                · simp only [Act.put, List.setIfInBounds_toArray, List.set_cons_zero, List.set_cons_succ, i64_w, i32_w]
                  rfl
                refine pure_ (i := 11) (N := (some 100)) (v := ?_) (a' := ?_) #[true, true, true, false, false, false, true, true, false, false, false, true, false, false, false, false] rfl rfl (by kernel_rfl) (fun _ _ _ h => h) (Or.inl ⟨by rfl, ?_⟩) ?_ ?_
                rotate_left
                · intro w'
                  go_simp
                  with_reducible rfl
                rotate_left
                · simp only [Act.put, List.setIfInBounds_toArray, List.set_cons_zero, List.set_cons_succ, i64_w, i32_w]
                  rfl
                refine take_ (i := 3) (N := (some 92)) (v := ?_) (a' := ?_) #[true, true, true, true, false, false, true, true, false, false, false, true, false, false, false, false] rfl rfl (by kernel_rfl) (fun _ _ _ h => h) (Or.inl ⟨by rfl, ?_⟩) hHeld ?_ ?_
                rotate_left
                · rintro w' ⟨s0, s1⟩
                  go_simp
                  with_reducible rfl
                rotate_left
                · simp only [Act.put, List.setIfInBounds_toArray, List.set_cons_zero, List.set_cons_succ, i64_w, i32_w]
                  rfl
                refine take_ (i := 8) (N := (some 97)) (v := ?_) (a' := ?_) #[true, true, true, true, false, false, true, true, true, false, false, true, false, false, false, false] rfl rfl (by kernel_rfl) (fun _ _ _ h => h) (Or.inl ⟨by rfl, ?_⟩) hHeld ?_ ?_
                rotate_left
                · rintro w' ⟨s0, s1⟩
                  go_simp
                  with_reducible rfl
                rotate_left
                · simp only [Act.put, List.setIfInBounds_toArray, List.set_cons_zero, List.set_cons_succ, i64_w, i32_w]
                  rfl
                refine pure_ (i := 4) (N := (some 93)) (v := ?_) (a' := ?_) #[true, true, true, true, true, false, true, true, true, false, false, true, false, false, false, false] rfl rfl (by kernel_rfl) (fun _ _ _ h => h) (Or.inl ⟨by rfl, ?_⟩) ?_ ?_
                rotate_left
                · intro w'
                  go_simp
                  with_reducible rfl
                rotate_left
                · simp only [Act.put, List.setIfInBounds_toArray, List.set_cons_zero, List.set_cons_succ, i64_w, i32_w]
                  rfl
                refine pure_ (i := 5) (N := (some 94)) (v := ?_) (a' := ?_) #[true, true, true, true, true, true, true, true, true, false, false, true, false, false, false, false] rfl rfl (by kernel_rfl) (fun _ _ _ h => h) (Or.inl ⟨by rfl, ?_⟩) ?_ ?_
                rotate_left
                · intro w'
                  go_simp
                  with_reducible rfl
                rotate_left
                · simp only [Act.put, List.setIfInBounds_toArray, List.set_cons_zero, List.set_cons_succ, i64_w, i32_w]
                  rfl
                refine pure_ (i := 9) (N := (some 98)) (v := ?_) (a' := ?_) #[true, true, true, true, true, true, true, true, true, true, false, true, false, false, false, false] rfl rfl (by kernel_rfl) (fun _ _ _ h => h) (Or.inl ⟨by rfl, ?_⟩) ?_ ?_
                rotate_left
                · intro w'
                  go_simp
                  with_reducible rfl
                rotate_left
                · simp only [Act.put, List.setIfInBounds_toArray, List.set_cons_zero, List.set_cons_succ, i64_w, i32_w]
                  rfl
                refine pure_ (i := 10) (N := (some 99)) (v := .int .i64 (x0 * 256 + x1)) (a' := ?_) #[true, true, true, true, true, true, true, true, true, true, true, true, false, false, false, false] rfl rfl (by kernel_rfl) (fun _ _ _ h => h) (Or.inl ⟨by rfl, (fun w' => by go_simp; rw [show Go.RowKit.wrap64 x0 = x0 from by unfold Go.RowKit.wrap64; omega, show Go.RowKit.wrap64 x1 = x1 from by unfold Go.RowKit.wrap64; omega, show Go.RowKit.wrap64 (x0 * 256) = x0 * 256 from by unfold Go.RowKit.wrap64; omega, or_bytes x0 x1 ⟨x00, x01⟩ ⟨x10, x11⟩])⟩) ?_ ?_
                rotate_left
                · simp only [Act.put, List.setIfInBounds_toArray, List.set_cons_zero, List.set_cons_succ, i64_w, i32_w]
                  rfl
                refine pure_ (i := 12) (N := (some 101)) (v := ?_) (a' := ?_) #[true, true, true, true, true, true, true, true, true, true, true, true, true, false, false, false] rfl rfl (by kernel_rfl) (fun _ _ _ h => h) (Or.inl ⟨by rfl, ?_⟩) ?_ ?_
                rotate_left
                · intro w'
                  go_simp
                  with_reducible rfl
                rotate_left
                · simp only [Act.put, List.setIfInBounds_toArray, List.set_cons_zero, List.set_cons_succ, i64_w, i32_w]
                  rfl
                refine last_ (i := 13) (N := (some 102)) #[true, true, true, true, true, true, true, true, true, true, true, true, true, true, false, false] rfl rfl (by kernel_rfl) (by decide) (fun K hK => ?_)
                refine value_ (v := .slice (some ⟨W2.heap.size, 0, none⟩) 1 1) (w1 := W2.alloc (.cells #[.int .i64 (x0 * 256 + x1), .slice A1 64 c1] 111)) (by rfl) rfl (exec_build1 rfl rfl (build_ch W2 (x0 * 256 + x1) A1 64 c1)) ?_
                refine hK.out _ _ ?_
                clear hK K
                refine norm_ (a' := ?_) ?_ ?_
                rotate_left
                · show Act.put _ (some 102) _ = _
                  simp only [Act.put, List.setIfInBounds_toArray, List.set_cons_zero, List.set_cons_succ, i64_w, i32_w]
                  rfl
                refine last_ (i := 14) (N := (some 103)) #[true, true, true, true, true, true, true, true, true, true, true, true, true, true, true, false] rfl rfl (by kernel_rfl) (by decide) (fun K hK => ?_)
                refine Kd.R_append_step chK (w0 := w3) w3.heap.size (by rfl) (.tmp 89) (.tmp 102) 79 111 (.agg #[.int .i64 0, .slice none 0 0]) 32 rfl Try.underlying79 info_ch rfl (by decide) (by decide) (.slice A11 i c11) vs2 (x0 * 256 + x1, ⟨A1, 64, c1⟩) [.int .i64 (x0 * 256 + x1), .slice A1 64 c1] (fun k => w3.heap.size ≤ k) (fun _ => False) rfl rfl (M_ch _ _ _ _ ⟨A1, 64, c1⟩) (fun _ h => h.elim) ?aF ?aO ?aB ?aS ?aL ?_
                case aF => intro k hk; have := BW2.out.size; omega
                case aO => exact HT2.out
                case aB => exact BW2.out
                case aS => exact BW2.out.size
                case aL => rw [hv2.out]; omega
                intro v1 w5 ho hb hg hat
                have HO := Fact.mk ho
                have HB5 := Fact.mk hb
                clear ho hb hg hat
                refine hK.out _ _ ?_
                clear hK K
                refine norm_ (a' := ?_) ?_ ?_
                rotate_left
                · show Act.put _ (some 103) _ = _
                  simp only [Act.put, List.setIfInBounds_toArray, List.set_cons_zero, List.set_cons_succ, i64_w, i32_w]
                  rfl
                refine pure_ (i := 15) (N := (some 11)) (v := ?_) (a' := ?_) #[true, true, true, true, true, true, true, true, true, true, true, true, true, true, true, true] rfl rfl (by kernel_rfl) (fun _ _ _ h => h) (Or.inl ⟨by rfl, ?_⟩) ?_ ?_
                rotate_left
                · intro w'
                  go_simp
                  with_reducible rfl
                rotate_left
                · simp only [Act.put, List.setIfInBounds_toArray, List.set_cons_zero, List.set_cons_succ, i64_w, i32_w]
                  rfl
                refine done_ (by kernel_rfl) ?_
                go_wp2_with fail
                refine ⟨⟨i + 1, by go_num, by omega, ⟨_, by simp [hv2.out], HO.out, HTold.out.snoc hv2.out HX1.out (by rw [hval.out]) HB1.out⟩, HB5⟩, by simp [intOf]; omega⟩
              · have he : i = N := by omega
                subst he
                have hlt4 : ¬ ((i : Int) < (i : Int)) := by omega
                have HTl : Fact (∀ S : Nat → Prop, (∀ k, S k → k < w.heap.size) → Chs S wr A11 (PD.told got)) := ⟨fun S hS => Chs.of_own HT.out (fun k hk h => by have := hS k h; omega) (by rw [hv2.out, told_length, hgl]; omega) (fun j v x hv hx => by
                  obtain ⟨b, hb1, hb2⟩ := told_at hx
                  obtain ⟨e1, e2⟩ := HTold.out j v b hv hb1
                  subst hb2
                  exact ⟨e1, (e2.sees hS).step (Only.of_below T2.out S)⟩)⟩
                have htl : (PD.told got).length = i := by rw [told_length, hgl]; omega
                have B4 := Fact.mk (next_new R2.out T2.out)
                have HD4 : Fact (IsDisk wr L D) := ⟨HD.out.below B4.out⟩
                have HR4 : Fact (IsRedo wr q L br) := ⟨HR.out.only (Only.of_below B4.out L.S) HQ.out⟩
                have HH4 : Fact (ReadB wr (some ⟨g4, 0, none⟩) 64 h) := ⟨by
                  have := (((BRow.of_own RW.out (by rw [HLen.out]; decide)).u8 R3.out).u8 (U8.of_below T2.out)).reads
                  rwa [HLen.out] at this⟩
                clear HT HTold hv2 HV HRows
                go_wp2_with fail
                by_cases hright : rightOf ((D.n : Int) - 100) (PD.told got) = false
                · have HF5 : Fact (D.found = ([], 0)) := ⟨by rw [HF4.out]; unfold tailOf; rw [if_neg (by simp), if_pos hright]⟩
                  skip
                  refine start_ (n := 14) (S := fun w' => ReadB w' (some ⟨g4, 0, none⟩) 64 h) (ds := []) #[false, false, false, false, false, false, false, false, false, false, false, false, false, false] (by kernel_rfl) rfl rfl (Kd.C_below HH4.out ((Below.refl _ _).drew)) (fun hHeld => ?_)
                  have HTm := right_any HD4.out.drew (HR4.out.only ((Only.refl L.S wr).drew) HQ.out) A11 c11 (PD.told got) (HTl.out (fun _ => False) (fun _ h => h.elim) |>.step ((Only.refl _ wr).drew))
                  rw [htl, hright] at HTm
                  have B5 : Fact (Below wr.heap.size wr wr.drew) := ⟨(Below.refl _ _).drew⟩
                  generalize wr.drew = W5 at *
                  refine pure_ (i := 0) (N := (some 105)) (v := ?_) (a' := ?_) #[true, false, false, false, false, false, false, false, false, false, false, false, false, false] rfl rfl (by kernel_rfl) (fun _ _ _ h => h) (Or.inl ⟨by rfl, ?_⟩) ?_ ?_
                  rotate_left
                  · intro w'
                    go_simp
                    with_reducible rfl
                  rotate_left
                  · simp only [Act.put, List.setIfInBounds_toArray, List.set_cons_zero, List.set_cons_succ, i64_w, i32_w]
                    rfl
                  refine pure_ (i := 1) (N := (some 106)) (v := ?_) (a' := ?_) #[true, true, false, false, false, false, false, false, false, false, false, false, false, false] rfl rfl (by kernel_rfl) (fun _ _ _ h => h) (Or.inl ⟨by rfl, ?_⟩) ?_ ?_
                  rotate_left
                  · intro w'
                    go_simp
                    with_reducible rfl
                  rotate_left
                  · simp only [Act.put, List.setIfInBounds_toArray, List.set_cons_zero, List.set_cons_succ, i64_w, i32_w]
                    rfl
                  refine one_ (i := 2) (N := (some 107)) #[true, true, true, false, false, false, false, false, false, false, false, false, false, false] rfl rfl (by kernel_rfl) (by decide) (fun K hK => ?_)
                  refine goes_ Try.func51 (by kernel_rfl) rfl #[.pointer (some ⟨q, 0, none⟩), .slice A11 i c11] (by rfl) rfl rfl (by (try simp only [List.map_toArray, List.map_cons, List.map_nil]); first | done | rfl) ?_
                  refine HTm.mono ?_
                  clear HTm
                  rintro e w5 ⟨rfl, b5⟩
                  replace hHeld := Kd.C_below hHeld b5
                  replace B5 := Fact.mk (next_new B5.out b5)
                  clear b5
                  clear W5
                  refine ⟨_, rfl, ?_⟩
                  refine hK.out _ _ hHeld (fun hxx => ?_)
                  clear hK K hxx
                  refine norm_ (a' := ?_) ?_ ?_
                  rotate_left
                  · show Act.put _ (some 107) _ = _
                    simp only [Act.put, List.setIfInBounds_toArray, List.set_cons_zero, List.set_cons_succ, i64_w, i32_w]
                    rfl
                  refine pure_ (i := 3) (N := (some 108)) (v := ?_) (a' := ?_) #[true, true, true, true, false, false, false, false, false, false, false, false, false, false] rfl rfl (by kernel_rfl) (fun _ _ _ h => h) (Or.inl ⟨by rfl, ?_⟩) ?_ ?_
                  rotate_left
                  · intro w'
                    go_simp
                    with_reducible rfl
                  rotate_left
                  · simp only [Act.put, List.setIfInBounds_toArray, List.set_cons_zero, List.set_cons_succ, i64_w, i32_w]
                    rfl
                  refine pure_ (i := 4) (N := (some 109)) (v := ?_) (a' := ?_) #[true, true, true, true, true, false, false, false, false, false, false, false, false, false] rfl rfl (by kernel_rfl) (fun _ _ _ h => h) (Or.inl ⟨by rfl, ?_⟩) ?_ ?_
                  rotate_left
                  · intro w'
                    go_simp
                    with_reducible rfl
                  rotate_left
                  · simp only [Act.put, List.setIfInBounds_toArray, List.set_cons_zero, List.set_cons_succ, i64_w, i32_w]
                    rfl
                  refine pure_ (i := 5) (N := (some 110)) (v := undef) (a' := ?_) #[true, true, true, true, true, true, false, false, false, false, false, false, false, false] rfl rfl (by kernel_rfl) (fun _ _ _ h => h) (Or.inr ⟨by rfl, rfl⟩) ?_ ?_
                  rotate_left
                  · simp only [Act.put, List.setIfInBounds_toArray, List.set_cons_zero, List.set_cons_succ, i64_w, i32_w]
                    rfl
                  refine pure_ (i := 10) (N := (some 115)) (v := undef) (a' := ?_) #[true, true, true, true, true, true, false, false, false, false, true, false, false, false] rfl rfl (by kernel_rfl) (fun _ _ _ h => h) (Or.inr ⟨by rfl, rfl⟩) ?_ ?_
                  rotate_left
                  · simp only [Act.put, List.setIfInBounds_toArray, List.set_cons_zero, List.set_cons_succ, i64_w, i32_w]
                    rfl
                  refine pure_ (i := 11) (N := (some 116)) (v := undef) (a' := ?_) #[true, true, true, true, true, true, false, false, false, false, true, true, false, false] rfl rfl (by kernel_rfl) (fun _ _ _ h => h) (Or.inr ⟨by rfl, rfl⟩) ?_ ?_
                  rotate_left
                  · simp only [Act.put, List.setIfInBounds_toArray, List.set_cons_zero, List.set_cons_succ, i64_w, i32_w]
                    rfl
                  refine one_ (i := 6) (N := (some 111)) #[true, true, true, true, true, true, true, false, false, false, true, true, false, false] rfl rfl (by kernel_rfl) (by decide) (fun K hK => ?_)
                  refine off_ (by rfl) ?_
                  refine hK.out _ _ hHeld (fun hxx => ?_)
                  clear hK K hxx
                  refine norm_ (a' := ?_) ?_ ?_
                  rotate_left
                  · show Act.put _ (some 111) _ = _
                    simp only [Act.put, List.setIfInBounds_toArray, List.set_cons_zero, List.set_cons_succ, i64_w, i32_w]
                    rfl
                  refine pure_ (i := 7) (N := (some 112)) (v := undef) (a' := ?_) #[true, true, true, true, true, true, true, true, false, false, true, true, false, false] rfl rfl (by kernel_rfl) (fun _ _ _ h => h) (Or.inr ⟨by rfl, rfl⟩) ?_ ?_
                  rotate_left
                  · simp only [Act.put, List.setIfInBounds_toArray, List.set_cons_zero, List.set_cons_succ, i64_w, i32_w]
                    rfl
                  refine pure_ (i := 8) (N := (some 113)) (v := undef) (a' := ?_) #[true, true, true, true, true, true, true, true, true, false, true, true, false, false] rfl rfl (by kernel_rfl) (fun _ _ _ h => h) (Or.inr ⟨by rfl, rfl⟩) ?_ ?_
                  rotate_left
                  · simp only [Act.put, List.setIfInBounds_toArray, List.set_cons_zero, List.set_cons_succ, i64_w, i32_w]
                    rfl
                  refine pure_ (i := 9) (N := (some 114)) (v := undef) (a' := ?_) #[true, true, true, true, true, true, true, true, true, true, true, true, false, false] rfl rfl (by kernel_rfl) (fun _ _ _ h => h) (Or.inr ⟨by rfl, rfl⟩) ?_ ?_
                  rotate_left
                  · simp only [Act.put, List.setIfInBounds_toArray, List.set_cons_zero, List.set_cons_succ, i64_w, i32_w]
                    rfl
                  refine pure_ (i := 12) (N := (some 117)) (v := undef) (a' := ?_) #[true, true, true, true, true, true, true, true, true, true, true, true, true, false] rfl rfl (by kernel_rfl) (fun _ _ _ h => h) (Or.inr ⟨by rfl, rfl⟩) ?_ ?_
                  rotate_left
                  · simp only [Act.put, List.setIfInBounds_toArray, List.set_cons_zero, List.set_cons_succ, i64_w, i32_w]
                    rfl
                  refine pure_ (i := 13) (N := (some 118)) (v := ?_) (a' := ?_) #[true, true, true, true, true, true, true, true, true, true, true, true, true, true] rfl rfl (by kernel_rfl) (fun _ _ _ h => h) (Or.inl ⟨by rfl, ?_⟩) ?_ ?_
                  rotate_left
                  · intro w'
                    go_simp
                    with_reducible rfl
                  rotate_left
                  · simp only [Act.put, List.setIfInBounds_toArray, List.set_cons_zero, List.set_cons_succ, i64_w, i32_w]
                    rfl
                  refine done_ (by kernel_rfl) ?_
                  go_wp2_with fail
                  go_ret2
                  exact FoundTo.none HF5.out (next_new B4.out B5.out)
                · replace hright : rightOf ((D.n : Int) - 100) (PD.told got) = true := by simpa using hright
                  have HP := Fact.mk (right_props hright)
                  skip
                  refine start_ (n := 14) (S := fun w' => ReadB w' (some ⟨g4, 0, none⟩) 64 h) (ds := []) #[false, false, false, false, false, false, false, false, false, false, false, false, false, false] (by kernel_rfl) rfl rfl (Kd.C_below HH4.out ((Below.refl _ _).drew)) (fun hHeld => ?_)
                  have HTm := right_any HD4.out.drew (HR4.out.only ((Only.refl L.S wr).drew) HQ.out) A11 c11 (PD.told got) (HTl.out (fun _ => False) (fun _ h => h.elim) |>.step ((Only.refl _ wr).drew))
                  rw [htl, hright] at HTm
                  have B5 : Fact (Below wr.heap.size wr wr.drew) := ⟨(Below.refl _ _).drew⟩
                  generalize wr.drew = W5 at *
                  refine pure_ (i := 0) (N := (some 105)) (v := ?_) (a' := ?_) #[true, false, false, false, false, false, false, false, false, false, false, false, false, false] rfl rfl (by kernel_rfl) (fun _ _ _ h => h) (Or.inl ⟨by rfl, ?_⟩) ?_ ?_
                  rotate_left
                  · intro w'
                    go_simp
                    with_reducible rfl
                  rotate_left
                  · simp only [Act.put, List.setIfInBounds_toArray, List.set_cons_zero, List.set_cons_succ, i64_w, i32_w]
                    rfl
                  refine pure_ (i := 1) (N := (some 106)) (v := ?_) (a' := ?_) #[true, true, false, false, false, false, false, false, false, false, false, false, false, false] rfl rfl (by kernel_rfl) (fun _ _ _ h => h) (Or.inl ⟨by rfl, ?_⟩) ?_ ?_
                  rotate_left
                  · intro w'
                    go_simp
                    with_reducible rfl
                  rotate_left
                  · simp only [Act.put, List.setIfInBounds_toArray, List.set_cons_zero, List.set_cons_succ, i64_w, i32_w]
                    rfl
                  refine one_ (i := 2) (N := (some 107)) #[true, true, true, false, false, false, false, false, false, false, false, false, false, false] rfl rfl (by kernel_rfl) (by decide) (fun K hK => ?_)
                  refine goes_ Try.func51 (by kernel_rfl) rfl #[.pointer (some ⟨q, 0, none⟩), .slice A11 i c11] (by rfl) rfl rfl (by (try simp only [List.map_toArray, List.map_cons, List.map_nil]); first | done | rfl) ?_
                  refine HTm.mono ?_
                  clear HTm
                  rintro e w5 ⟨rfl, b5⟩
                  replace hHeld := Kd.C_below hHeld b5
                  replace B5 := Fact.mk (next_new B5.out b5)
                  clear b5
                  clear W5
                  refine ⟨_, rfl, ?_⟩
                  refine hK.out _ _ hHeld (fun hxx => ?_)
                  clear hK K hxx
                  refine norm_ (a' := ?_) ?_ ?_
                  rotate_left
                  · show Act.put _ (some 107) _ = _
                    simp only [Act.put, List.setIfInBounds_toArray, List.set_cons_zero, List.set_cons_succ, i64_w, i32_w]
                    rfl
                  refine pure_ (i := 3) (N := (some 108)) (v := ?_) (a' := ?_) #[true, true, true, true, false, false, false, false, false, false, false, false, false, false] rfl rfl (by kernel_rfl) (fun _ _ _ h => h) (Or.inl ⟨by rfl, ?_⟩) ?_ ?_
                  rotate_left
                  · intro w'
                    go_simp
                    with_reducible rfl
                  rotate_left
                  · simp only [Act.put, List.setIfInBounds_toArray, List.set_cons_zero, List.set_cons_succ, i64_w, i32_w]
                    rfl
                  refine pure_ (i := 4) (N := (some 109)) (v := ?_) (a' := ?_) #[true, true, true, true, true, false, false, false, false, false, false, false, false, false] rfl rfl (by kernel_rfl) (fun _ _ _ h => h) (Or.inl ⟨by rfl, ?_⟩) ?_ ?_
                  rotate_left
                  · intro w'
                    go_simp
                    with_reducible rfl
                  rotate_left
                  · simp only [Act.put, List.setIfInBounds_toArray, List.set_cons_zero, List.set_cons_succ, i64_w, i32_w]
                    rfl
                  refine pure_ (i := 5) (N := (some 110)) (v := ?_) (a' := ?_) #[true, true, true, true, true, true, false, false, false, false, false, false, false, false] rfl rfl (by kernel_rfl) (fun _ _ _ h => h) (Or.inl ⟨by rfl, ?_⟩) ?_ ?_
                  rotate_left
                  · intro w'
                    go_simp
                    with_reducible rfl
                  rotate_left
                  · simp only [Act.put, List.setIfInBounds_toArray, List.set_cons_zero, List.set_cons_succ, i64_w, i32_w]
                    rfl
                  refine pure_ (i := 10) (N := (some 115)) (v := ?_) (a' := ?_) #[true, true, true, true, true, true, false, false, false, false, true, false, false, false] rfl rfl (by kernel_rfl) (fun _ _ _ h => h) (Or.inl ⟨by rfl, ?_⟩) ?_ ?_
                  rotate_left
                  · intro w'
                    go_simp
                    with_reducible rfl
                  rotate_left
                  · simp only [Act.put, List.setIfInBounds_toArray, List.set_cons_zero, List.set_cons_succ, i64_w, i32_w]
                    rfl
                  refine take_ (i := 11) (N := (some 116)) (v := .string (strOfNums h)) (a' := ?_) #[true, true, true, true, true, true, false, false, false, false, true, true, false, false] rfl rfl (by kernel_rfl) (fun _ _ _ h => h) (Or.inl ⟨by rfl, (fun w' s0 => by have hcv : (convert 37 9 (.slice (some ⟨g4, 0, none⟩) 64 c4)).run Try.prog w' = .ok (.string (strOfNums h)) w' := Kd.C_string Try.underlying37 Try.underlying5 Try.underlying9 s0; go_simp)⟩) hHeld ?_ ?_
                  rotate_left
                  · simp only [Act.put, List.setIfInBounds_toArray, List.set_cons_zero, List.set_cons_succ, i64_w, i32_w]
                    rfl
                  refine one_ (i := 6) (N := (some 111)) #[true, true, true, true, true, true, true, false, false, false, true, true, false, false] rfl rfl (by kernel_rfl) (by decide) (fun K hK => ?_)
                  refine goes_ Try.func52 (by kernel_rfl) rfl #[.slice A11 i c11] (by rfl) rfl rfl (by (try simp only [List.map_toArray, List.map_cons, List.map_nil]); first | done | rfl) ?_
                  have HJ := job_any A11 c11 (PD.told got) ((HTl.out (fun _ => False) (fun _ h => h.elim)).step (Only.of_below B5.out _)) HP.out.2.2.2 (fun x hx => ⟨(HP.out.1 x hx).1, by have := (HP.out.1 x hx).2.1; omega, (HP.out.1 x hx).2.2⟩)
                  rw [htl] at HJ
                  refine HJ.mono ?_
                  clear HJ
                  rintro e w6 ⟨g8, c8, rfl, hc8, hrw, b6⟩
                  replace hHeld := Kd.C_below hHeld b6
                  have J6 := Fact.mk (hrw (fun _ => False) (fun _ h => h.elim))
                  replace B5 := Fact.mk (next_new B5.out b6)
                  clear b6 hrw
                  clear w5
                  obtain ⟨ad, As, cs, hA, hs, hc⟩ := J6.out.at_ (j := 0) (x := headOf (PD.told got)) rfl
                  injection hA with hA
                  subst hA
                  have hld := hc w6 (Only.refl _ _)
                  rw [show (⟨g8, 0, none⟩ : Addr).add 0 = ⟨g8, 0, none⟩ from rfl, show (headOf (PD.told got)).length = 64 from pad_length _] at hld
                  have hrd := hs.reads w6 (Only.refl _ _)
                  rw [show (headOf (PD.told got)).length = 64 from pad_length _] at hrd
                  dsimp only at hrd
                  clear hc hs J6
                  refine ⟨_, rfl, ?_⟩
                  refine hK.out _ _ hHeld (fun hxx => ?_)
                  clear hK K hxx
                  rw [show 4 + i = 3 + i + 1 from by omega]
                  refine norm_ (a' := ?_) ?_ ?_
                  rotate_left
                  · show Act.put _ (some 111) _ = _
                    simp only [Act.put, List.setIfInBounds_toArray, List.set_cons_zero, List.set_cons_succ, i64_w, i32_w]
                    rfl
                  refine pure_ (i := 7) (N := (some 112)) (v := .pointer (some ⟨g8, 0, none⟩)) (a' := ?_) #[true, true, true, true, true, true, true, true, false, false, true, true, false, false] rfl rfl (by kernel_rfl) (fun _ _ _ h => h) (Or.inl ⟨by rfl, (fun w' => exec_index rfl (index_first w' g8 (3 + i) c8))⟩) ?_ ?_
                  rotate_left
                  · simp only [Act.put, List.setIfInBounds_toArray, List.set_cons_zero, List.set_cons_succ, i64_w, i32_w]
                    rfl
                  refine one_ (i := 8) (N := (some 113)) #[true, true, true, true, true, true, true, true, true, false, true, true, false, false] rfl rfl (by kernel_rfl) (by decide) (fun K hK => ?_)
                  refine value_ (v := .slice As 64 cs) (w1 := w6) (by rfl) rfl (exec_load rfl (by go_simp)) ?_
                  refine hK.out _ _ hHeld (fun hxx => ?_)
                  clear hK K hxx
                  refine norm_ (a' := ?_) ?_ ?_
                  rotate_left
                  · show Act.put _ (some 113) _ = _
                    simp only [Act.put, List.setIfInBounds_toArray, List.set_cons_zero, List.set_cons_succ, i64_w, i32_w]
                    rfl
                  have hcv : (convert 37 9 (.slice As 64 cs)).run Try.prog w6 = .ok (.string (strOfNums (headOf (PD.told got)))) w6 := Kd.C_string Try.underlying37 Try.underlying5 Try.underlying9 hrd
                  generalize hs1 : strOfNums (headOf (PD.told got)) = s1 at *
                  refine one_ (i := 9) (N := (some 114)) #[true, true, true, true, true, true, true, true, true, true, true, true, false, false] rfl rfl (by kernel_rfl) (by decide) (fun K hK => ?_)
                  refine value_ (v := .string s1) (w1 := w6) (by rfl) rfl (by go_simp) ?_
                  refine hK.out _ _ hHeld (fun hxx => ?_)
                  clear hK K hxx
                  refine norm_ (a' := ?_) ?_ ?_
                  rotate_left
                  · show Act.put _ (some 114) _ = _
                    simp only [Act.put, List.setIfInBounds_toArray, List.set_cons_zero, List.set_cons_succ, i64_w, i32_w]
                    rfl
                  clear hcv hrd hld
                  generalize hs2 : strOfNums h = s2 at *
                  by_cases hq : s1 = s2
                  · have HF5 : Fact (D.found = (PD.told got, 0)) := ⟨by rw [HF4.out]; unfold tailOf; rw [if_neg (by simp), if_neg (by rw [hright]; decide), if_neg (by rw [hs1, hs2, hq]; simp)]⟩
                    subst hq
                    clear hs1 hs2
                    refine pure_ (i := 12) (N := (some 117)) (v := ?_) (a' := ?_) #[true, true, true, true, true, true, true, true, true, true, true, true, true, false] rfl rfl (by kernel_rfl) (fun _ _ _ h => h) (Or.inl ⟨by rfl, ?_⟩) ?_ ?_
                    rotate_left
                    · intro w'
                      go_simp
                      with_reducible rfl
                    rotate_left
                    · simp only [Act.put, List.setIfInBounds_toArray, List.set_cons_zero, List.set_cons_succ, i64_w, i32_w]
                      rfl
                    refine pure_ (i := 13) (N := (some 118)) (v := ?_) (a' := ?_) #[true, true, true, true, true, true, true, true, true, true, true, true, true, true] rfl rfl (by kernel_rfl) (fun _ _ _ h => h) (Or.inl ⟨by rfl, ?_⟩) ?_ ?_
                    rotate_left
                    · intro w'
                      go_simp
                      with_reducible rfl
                    rotate_left
                    · simp only [Act.put, List.setIfInBounds_toArray, List.set_cons_zero, List.set_cons_succ, i64_w, i32_w]
                      rfl
                    refine done_ (by kernel_rfl) ?_
                    go_wp2_with fail
                    go_ret2
                    rw [HF5.out]
                    exact ⟨A11, c11, by dsimp only; rw [htl]; rfl, fun S hS => (HTl.out S hS).step (Only.of_below B5.out S), next_new B4.out B5.out⟩
                  · have HF5 : Fact (D.found = ([], 0)) := ⟨by rw [HF4.out]; unfold tailOf; rw [if_neg (by simp), if_neg (by rw [hright]; decide), if_pos (by rw [hs1, hs2]; exact hq)]⟩
                    have hq2 : (s1.toList == s2.toList) = false := by rw [← hs1, ← hs2] at hq ⊢; exact str_ne hq
                    clear hs1 hs2
                    skip
                    refine pure_ (i := 12) (N := (some 117)) (v := ?_) (a' := ?_) #[true, true, true, true, true, true, true, true, true, true, true, true, true, false] rfl rfl (by kernel_rfl) (fun _ _ _ h => h) (Or.inl ⟨by rfl, ?_⟩) ?_ ?_
                    rotate_left
                    · intro w'
                      go_simp
                      with_reducible rfl
                    rotate_left
                    · simp only [Act.put, List.setIfInBounds_toArray, List.set_cons_zero, List.set_cons_succ, i64_w, i32_w]
                      rfl
                    refine pure_ (i := 13) (N := (some 118)) (v := ?_) (a' := ?_) #[true, true, true, true, true, true, true, true, true, true, true, true, true, true] rfl rfl (by kernel_rfl) (fun _ _ _ h => h) (Or.inl ⟨by rfl, ?_⟩) ?_ ?_
                    rotate_left
                    · intro w'
                      go_simp
                      with_reducible rfl
                    rotate_left
                    · simp only [Act.put, List.setIfInBounds_toArray, List.set_cons_zero, List.set_cons_succ, i64_w, i32_w]
                      rfl
                    refine done_ (by kernel_rfl) ?_
                    go_wp2_with fail
                    go_ret2
                    exact FoundTo.none HF5.out (next_new B4.out B5.out)
    · have HF2 := HF.out
      rw [if_neg (by simp), if_pos (by simp [hm])] at HF2
      replace HF2 := Fact.mk HF2
      clear HF
      generalize strOfNums (h.take 2) = s0 at *
      have hq : (s0.toList == [82, 68]) = false := by simpa using hm
      replace hm := Fact.mk hm
      go_wp2_with fail
      go_ret2
      exact FoundTo.none HF2.out B1.out
  · have hF := HF.out
    rw [if_pos he] at hF
    go_wp2_with fail
    go_ret2
    exact FoundTo.none hF B1.out
end
end Go.Proofs.Ytdkijmikafmgaaa.Dk
namespace Go.Proofs.Ytdkijmikafmgaaa.Dk
open Go.RowKit Go.Maps Go.Proofs.YtdkijmikafmgaaaW.PrintWords Go.Proofs.YtdkijmikafmgaaaW.PrintLast Go.Proofs.YtdkijmikafmgaaaW.PrintMore
set_option linter.unusedVariables false
set_option linter.unusedSimpArgs false

/-- What 'Open' comes to. -/
def OpenTo (w : World) (L : DL) (r : Int × PD) (e : Ending) (w' : World) : Prop :=
  ((r.1 = 0 ∧ ∃ q, e = .returned (.tuple #[.pointer (some ⟨q, 0, none⟩), .int .i64 0]) ∧ IsRedo w' q L false ∧ w.heap.size ≤ q) ∨ (r.1 ≠ 0 ∧ e = .returned (.tuple #[.pointer none, .int .i64 r.1]))) ∧ IsDisk w' L r.2 ∧ Only L.S w w'
theorem PD.found_right (D : PD) : D.found.1 = [] ∨ rightOf ((D.n : Int) - 100) D.found.1 = true := by
  unfold PD.found
  dsimp only
  repeat' split
  all_goals first | exact .inl rfl | skip
  right
  rename_i h _
  simpa using h
theorem PD.open_eq (D : PD) : D.open_ = if D.found.2 ≠ 0 then (D.found.2, D) else if D.found.1 = [] then (0, D) else D.finish D.found.1 := rfl
section
variable {w : World} {L : DL} {D : PD}
set_option maxHeartbeats 4000000 in
set_option maxRecDepth 1000000 in
theorem Open_any (hd : IsDisk w L D) (h100 : 100 < D.n) (hlow : D.Low) :
    Calls Try.prog 16 #[.pointer (some ⟨L.p, 0, none⟩)] w (OpenTo w L D.open_) := by
  have h100i : ¬ ((D.n : Int) ≤ 100) := by omega
  have hn := hd.good.most
  have HD := Fact.mk hd
  have HL := Fact.mk (Len_any hd)
  have HLow := Fact.mk hlow
  have HF := Fact.mk D.open_eq
  have HFR := Fact.mk D.found_right
  have HLt := Fact.mk hd.lt
  clear hd hlow h100
  go_enter Try.func16, Try.ntmps16
  go_wp2_with fail
  refine HL.out.mono ?_
  rintro e w0 ⟨rfl, rfl⟩
  clear HL
  go_wp2_with fail
  have hnew := heap_alloc_new w (.cells #[.pointer (some ⟨L.p, 0, none⟩), .bool false] 93)
  have HR1 : Fact (IsRedo (w.alloc (.cells #[.pointer (some ⟨L.p, 0, none⟩), .bool false] 93)) w.heap.size L false) := ⟨hnew⟩
  have HD1 := Fact.mk (HD.out.alloc (.cells #[.pointer (some ⟨L.p, 0, none⟩), .bool false] 93))
  have B1 : Fact (Below w.heap.size w (w.alloc (.cells #[.pointer (some ⟨L.p, 0, none⟩), .bool false] 93))) := ⟨(Below.refl _ _).alloc (Nat.le_refl _) _⟩
  have hq : ¬ L.S w.heap.size := fun h => Nat.lt_irrefl _ (HLt.out _ h)
  have HQ := Fact.mk hq
  clear hnew hq
  generalize (w.alloc (.cells #[.pointer (some ⟨L.p, 0, none⟩), .bool false] 93)) = w1 at *
  refine (found_any HD1.out HR1.out HLow.out).mono ?_
  rintro e w2 ⟨A, c, rfl, hch, b2⟩
  have HD2 := Fact.mk (HD1.out.below b2)
  have HR2 : Fact (IsRedo w2 w.heap.size L false) := ⟨HR1.out.only (Only.of_below b2 L.S) HQ.out⟩
  have HC2 := Fact.mk (hch L.S (fun k hk => HD1.out.lt k hk))
  have B2 := Fact.mk (next_new B1.out b2)
  clear hch b2 HR1 HD1 B1
  clear w1
  generalize D.found = r at *
  obtain ⟨l, e0⟩ := r
  dsimp only at HC2 HFR HF ⊢
  by_cases he : e0 = 0
  · subst he
    by_cases hl : l = []
    · subst hl
      have HF2 : Fact (D.open_ = (0, D)) := ⟨by rw [HF.out, if_neg (by simp), if_pos rfl]⟩
      clear HF HC2 HFR
      simp only [List.length_nil]
      go_wp2_with fail
      go_ret2
      rw [HF2.out]
      exact ⟨.inl ⟨rfl, _, rfl, HR2.out, Nat.le_refl _⟩, HD2.out, Only.of_below B2.out _⟩
    · have HF2 : Fact (D.open_ = D.finish l) := ⟨by rw [HF.out, if_neg (by simp), if_neg hl]⟩
      have HP := Fact.mk (right_props (HFR.out.resolve_left hl))
      have hpos : 0 < l.length := HP.out.2.2.1
      have hle : l.length ≤ 96 := HP.out.2.2.2
      clear HF HFR hl
      go_wp2_with fail
      refine (finish_any (S := L.S) HD2.out HR2.out A c l HC2.out (fun k h => h) (fun k hk => HD2.out.lt k hk) (fun x hx => ⟨(HP.out.1 x hx).1, by have := (HP.out.1 x hx).2.1; omega⟩) hle).mono ?_
      rintro e w3 ⟨rfl, h3, o3⟩
      have H3 := Fact.mk h3
      have HR3 : Fact (IsRedo w3 w.heap.size L false) := ⟨HR2.out.only o3 HQ.out⟩
      have O3 : Fact (Only L.S w w3) := ⟨(Only.of_below B2.out L.S).trans o3⟩
      clear h3 o3
      generalize D.finish l = r at *
      obtain ⟨e1, D1⟩ := r
      dsimp only at H3 ⊢
      by_cases he : e1 = 0
      · subst he
        go_wp2_with fail
        go_ret2
        rw [HF2.out]
        exact ⟨.inl ⟨rfl, _, rfl, HR3.out, Nat.le_refl _⟩, H3.out, O3.out⟩
      · go_wp2_with fail
        go_ret2
        rw [HF2.out]
        exact ⟨.inr ⟨he, rfl⟩, H3.out, O3.out⟩
  · have HF2 : Fact (D.open_ = (e0, D)) := ⟨by rw [HF.out, if_pos he]⟩
    clear HF
    go_wp2_with fail
    go_ret2
    rw [HF2.out]
    exact ⟨.inr ⟨he, rfl⟩, HD2.out, Only.of_below B2.out _⟩
end
end Go.Proofs.Ytdkijmikafmgaaa.Dk
