/-
What 'job' does: a job's sectors.
-/
import Derived.Test.YtjpbpeiknnloeaaRdRows
import Derived.Test.YtjpbpeiknnloeaaWRepsOne
import Derived.Test.YtjpbpeiknnloeaaDkSteps
namespace Go.Proofs.Ytjpbpeiknnloeaa.Dk
open Go.RowKit Go.Maps Go.Proofs.YtjpbpeiknnloeaaW.PrintWords Go.Proofs.YtjpbpeiknnloeaaW.PrintLast Go.Proofs.YtjpbpeiknnloeaaW.PrintMore
set_option linter.unusedVariables false
set_option linter.unusedSimpArgs false

def pairsOf (l : List Ch) (j : Nat) : List Int := (l.take j).flatMap fun c => two c.1
theorem pairsOf_step {l : List Ch} {j : Nat} {x : Ch} (hx : l[j]? = some x) : pairsOf l (j + 1) = pairsOf l j ++ two x.1 := by
  unfold pairsOf
  rw [List.take_add_one, hx]
  simp
theorem pairsOf_length (l : List Ch) {j : Nat} (hj : j ≤ l.length) : (pairsOf l j).length = 2 * j := by
  induction j with
  | zero => rfl
  | succ j ih => rw [pairsOf_step (List.getElem?_eq_getElem hj), List.length_append, ih (by omega)]; simp [two]; omega
theorem placesOf_eq (l : List Ch) : pairsOf l l.length ++ List.replicate (192 - 2 * l.length) 0 = placesOf l := by
  unfold placesOf
  have h := pairsOf_length l (Nat.le_refl _)
  unfold pairsOf at h ⊢
  rw [List.take_length] at h ⊢
  show _ = _ ++ _
  rw [h]
theorem placesOf_length (l : List Ch) (h : l.length ≤ 96) : (placesOf l).length = 192 := by
  rw [← placesOf_eq, List.length_append, pairsOf_length l (Nat.le_refl _), List.length_replicate]; omega
/-- The images, one behind the other. -/
def threeOf (l : List Ch) : List (List Int) := [(placesOf l).take 64, ((placesOf l).take 128).drop 64, ((placesOf l).take 192).drop 128]
theorem imagesOf_eq (l : List Ch) : imagesOf l = threeOf l ++ l.map fun c => pad c.2 := rfl
theorem reads_two (W : World) (a b : Int) (g : Nat) (hg : g = W.heap.size) : ReadB (W.alloc (.cells #[.int .u8 a, .int .u8 b] 5)) (some ⟨g, 0, none⟩) 2 [a, b] := by
  subst hg
  exact (bytes_new W [a, b] 5 (by simp)).reads
set_option maxHeartbeats 4000000 in
set_option maxRecDepth 1000000 in
theorem job_any {S : Nat → Prop} {w : World} (A : Option Addr) (c : Nat) (l : List Ch) (hl : Chs S w A l) (hlen : l.length ≤ 96) (hb : ∀ x ∈ l, 0 ≤ x.1 ∧ x.1 ≤ 4096 ∧ x.2.length ≤ 64) :
    Calls Try.prog 26 #[.slice A l.length c] w fun e w' => ∃ g c', e = .returned (.slice (some ⟨g, 0, none⟩) (4 + l.length) c') ∧ 4 + l.length ≤ c' ∧ (∀ S', (∀ k, S' k → k < w.heap.size) → Rws S' w' (some ⟨g, 0, none⟩) (jobOf l)) ∧ Below w.heap.size w w' := by
  have HC := Fact.mk hl
  have HB := Fact.mk hb
  clear hl hb
  go_enter Try.func26, Try.ntmps26
  go_wp2_with fail
  have hn2 : two (l.length : Int) = [(l.length : Int) / 256, (l.length : Int)] := by unfold two; congr 1; omega; congr 1; omega
  have F0 : Fact (Below w.heap.size w ((w.alloc (.cells #[.slice none 0 0] 27)).alloc (.cells #[.int .u8 ((l.length : Int) / 256), .int .u8 (l.length : Int)] 5))) := ⟨((Below.refl _ _).alloc (Nat.le_refl _) _).alloc (by simp) _⟩
  have F1 : Fact (((w.alloc (.cells #[.slice none 0 0] 27)).alloc (.cells #[.int .u8 ((l.length : Int) / 256), .int .u8 (l.length : Int)] 5)).heap.size = w.heap.size + 2) := ⟨by simp⟩
  have F2 : Fact (Kd.R slK 27 ((w.alloc (.cells #[.slice none 0 0] 27)).alloc (.cells #[.int .u8 ((l.length : Int) / 256), .int .u8 (l.length : Int)] 5)) w.heap.size (fun k => w.heap.size ≤ k) (.slice (some ⟨w.heap.size, 0, none⟩) 1 1) [⟨none, 0, 0⟩]) :=
    ⟨Kd.R_below ⟨fun k hk => by simp [Value.ownBlock] at hk; omega, OwnRow.lit w w.heap.size (Reps.one (p := (⟨none, 0, 0⟩ : SV)) (v := .slice none 0 0) rfl (Reps.none _ _)) (Nat.le_refl _) (by simp)⟩ (below_alloc (Below.refl _ _) _)⟩
  have F3 : Fact (BRow ((w.alloc (.cells #[.slice none 0 0] 27)).alloc (.cells #[.int .u8 ((l.length : Int) / 256), .int .u8 (l.length : Int)] 5)) w.heap.size ⟨some ⟨w.heap.size + 1, 0, none⟩, 2, 2⟩ (two (l.length : Int))) := ⟨by
    have := BRow.new (w.alloc (.cells #[.slice none 0 0] 27)) (two (l.length : Int)) 2 (by simp [two]) (by simp [two])
    rw [hn2] at this ⊢
    have e : (w.alloc (.cells #[.slice none 0 0] 27)).heap.size = w.heap.size + 1 := by simp
    rw [e] at this
    exact this.lower (by omega)⟩
  clear hn2
  generalize ((w.alloc (.cells #[.slice none 0 0] 27)).alloc (.cells #[.int .u8 ((l.length : Int) / 256), .int .u8 (l.length : Int)] 5)) = w2 at *
  have I0 : Fact (Kd.R (Kd.int .u8) 5 w2 w2.heap.size (fun k => w2.heap.size ≤ k) (.slice none 0 0) (pairsOf l 0)) := ⟨by unfold pairsOf; rw [List.take_zero]; exact Kd.R_nil _ _ _ _ _⟩
  go_loopw [3, 23] (fun v3 v23 wr => ∃ j : Nat, v23 = .int .i64 (j : Int) ∧ j ≤ l.length ∧ Fact (Kd.R (Kd.int .u8) 5 wr w2.heap.size (fun k => w2.heap.size ≤ k) v3 (pairsOf l j)) ∧ Fact (Below w2.heap.size w2 wr)) (fun _ v _ => l.length - (intOf v).toNat)
  case atStart => exact ⟨0, rfl, Nat.zero_le _, I0, ⟨Below.refl _ _⟩⟩
  case round =>
    obtain ⟨j, rfl, hj, R1, R2⟩ := hrel
    clear I0
    obtain ⟨A3, c3, rfl⟩ := Kd.R_slice R1.out
    by_cases hlt : j < l.length
    · have hlt2 : (j : Int) < (l.length : Int) := by omega
      have hx : l[j]? = some l[j] := List.getElem?_eq_getElem hlt
      have HX := Fact.mk hx
      obtain ⟨hb1, hb2, hb3⟩ := HB.out l[j] (List.getElem_mem hlt)
      obtain ⟨ad, As, cs, hA, hs, hc⟩ := HC.out.at_ hx
      subst hA
      obtain ⟨c0, c1⟩ := hc wr (Only.of_below (next_below F0.out (Only.of_below R2.out (fun _ => False)) (fun k h => h.elim)) S)
      have hbase : w2.heap.size ≤ wr.heap.size := R2.out.size
      clear hs hc hx
      have hpl : (pairsOf l j).length = 2 * j := pairsOf_length l (by omega)
      generalize l[j] = x at *
      have hx1 : two x.1 = [x.1 / 256, x.1 % 256] := by unfold two; congr 1; omega
      go_wp2_with ((with_reducible refine gate_builtin (b := .append) (xs := #[.tmp 27, .tmp 35]) rfl ?_); at_builtin; refine Kd.R_append_rows (Kd.int .u8) (w0 := w2) w2.heap.size rfl (.tmp 27) (.tmp 35) 27 5 (.int .u8 0) 1 rfl Try.underlying27 info_u8 rfl (by decide) (by omega) (.slice A3 (pairsOf l j).length c3) (pairsOf l j) (two x.1) (some ⟨wr.heap.size + 1, 0, none⟩) 2 2 (fun k => w2.heap.size ≤ k) (fun _ => False) rfl rfl ?aO ?aR (fun _ _ h => h) (fun _ h => h.elim) ?aF ?aB ?aS ?aL ?_; (case aR => rw [hx1]; exact reads_two _ _ _ _ (by simp)); (case aO => exact Kd.R_alloc (Kd.R_alloc R1.out _) _); (case aF => intro k hk; simp at hk; omega); (case aB => exact (R2.out.alloc hbase _).alloc (by simp; omega) _); (case aS => simp; omega); (case aL => omega); intro v1 w1 ho hb hg hat; have HO := Fact.mk ho; have HBw := Fact.mk hb; clear ho hb hg hat)
      exact ⟨⟨j + 1, by go_num, by omega, ⟨by rw [pairsOf_step HX.out]; exact HO.out⟩, HBw⟩, by simp [intOf]; omega⟩
    · have he : j = l.length := by omega
      subst he
      have hlt2 : ¬ ((l.length : Int) < (l.length : Int)) := by omega
      have hpl : (pairsOf l l.length).length = 2 * l.length := pairsOf_length l (Nat.le_refl _)
      have hbase : w2.heap.size ≤ wr.heap.size := R2.out.size
      go_wp2_with ((with_reducible refine gate_builtin (b := .append) (xs := #[.tmp 38, .tmp 41]) rfl ?_); at_builtin; refine wpList_made rfl (.tmp 38) (.tmp 41) 27 3 5 rfl Try.underlying27 int_t info_u8 w2.heap.size _ _ (pairsOf l l.length) rfl R1.out (192 - 2 * l.length) ?aX (by omega) (by omega) hbase ?_; (case aX => show Value.int .i64 _ = _; congr 1; omega); intro v3 w3 ho hg; have HO := Fact.mk ho; have HG := Fact.mk hg; clear ho hg)
      have HO2 := HO.out
      rw [placesOf_eq] at HO2
      have B3 : Fact (Below w2.heap.size w2 w3) := ⟨R2.out.grown HG.out hbase (own_base (Kd.own_of_R R1.out))⟩
      have hp := placesOf_length l hlen
      obtain ⟨A3', c3', rfl⟩ := Kd.R_slice HO2
      obtain ⟨g3, c3'', e3, _, _⟩ := (Kd.own_of_R HO2).form (by omega)
      injection e3 with e3 _ e4
      subst e3 e4
      have G3 := Fact.mk ((BRow.of_own HO2 (by omega)).lower (base' := w.heap.size) (by have := F1.out; omega))
      have hc3 := (own_reads_ HO2).2.1
      rw [hp] at G3 hc3 ⊢
      have N3 := Fact.mk (F3.out.u8 (U8.of_below B3.out))
      have O3 := Fact.mk (Kd.R_below F2.out B3.out)
      have B3w := Fact.mk (F0.out.trans (B3.out.mono (by have := F1.out; omega)))
      clear HO HO2 HG B3 R1 R2 F0 F2 F3 F1 hbase
      clear hpl
      clear wr
      go_wp2_with fail
      have I2 : Fact (∃ vs, Kd.R slK 27 w3 w.heap.size (fun k => w.heap.size ≤ k) (.slice (some ⟨w.heap.size, 0, none⟩) 1 1) (⟨none, 0, 0⟩ :: vs) ∧ BRows w3 w.heap.size vs ((threeOf l).take 0)) := ⟨[], O3.out, rfl, fun i s b h => by simp at h⟩
      clear O3
      go_loopw [4, 43] (fun v4 v43 wr => ∃ j : Nat, v43 = .int .i64 (j : Int) ∧ j ≤ 3 ∧ Fact (∃ vs, Kd.R slK 27 wr w.heap.size (fun k => w.heap.size ≤ k) v4 (⟨none, 0, 0⟩ :: vs) ∧ BRows wr w.heap.size vs ((threeOf l).take j)) ∧ Fact (U8 w3 wr) ∧ Fact (Below w.heap.size w wr)) (fun _ v _ => 3 - (intOf v).toNat)
      case atStart => exact ⟨0, rfl, Nat.zero_le _, I2, ⟨U8.refl _⟩, B3w⟩
      case round =>
        obtain ⟨j, rfl, hj, R1, R2, R3⟩ := hrel
        clear I2 B3w
        obtain ⟨vs, hV, hR⟩ := R1.out
        obtain ⟨A4, c4, rfl⟩ := Kd.R_slice hV
        have HV := Fact.mk hV
        have HVr := Fact.mk hR
        have hvl : vs.length = j := by have := hR.1; rw [this, List.length_take]; show min j 3 = j; omega
        clear R1 hV hR
        have hbase : w.heap.size ≤ wr.heap.size := R3.out.size
        have hj4 : j = 0 ∨ j = 1 ∨ j = 2 ∨ j = 3 := by omega
        rcases hj4 with rfl | rfl | rfl | rfl
        · go_wp2_with ((with_reducible refine gate_builtin (b := .append) (xs := #[.tmp 46, .tmp 54]) rfl ?_); at_builtin; refine Kd.R_append slK (w0 := w) w.heap.size rfl (.tmp 46) (.tmp 54) 64 27 (.slice none 0 0) 24 rfl Try.underlying64 info_sl rfl (by decide) (by decide) (.slice A4 (⟨none, 0, 0⟩ :: vs).length c4) (⟨none, 0, 0⟩ :: vs) ⟨some ⟨g3, 0, none⟩, 64, c3' - 0⟩ [.slice (some ⟨g3, 0, none⟩) 64 (c3' - 0)] (fun k => w.heap.size ≤ k) (fun _ => False) rfl rfl rfl (fun _ h => h.elim) ?aF ?aO ?aB ?aS ?aL ?_; (case aF => intro k hk; omega); (case aO => exact HV.out); (case aB => exact R3.out); (case aS => exact hbase); (case aL => rw [List.length_cons, hvl]; omega); intro v1 w1 ho hb hg hat; have HO := Fact.mk ho; have HBw := Fact.mk hb; have HU := Fact.mk (U8.of_grown hg HV.out (by decide)); clear ho hb hg hat)
          exact ⟨⟨1, by rfl, by omega, ⟨vs ++ [⟨some ⟨g3, 0, none⟩, 64, c3' - 0⟩], by exact HO.out, by rw [show (threeOf l).take 1 = (threeOf l).take 0 ++ [_] from rfl]; exact (HVr.out.u8 HU.out).snoc (((G3.out.u8 R2.out).u8 HU.out).cut 0 64 (by omega) (by rw [hp]; omega))⟩, ⟨R2.out.trans HU.out⟩, HBw⟩, by simp [intOf]⟩
        · go_wp2_with ((with_reducible refine gate_builtin (b := .append) (xs := #[.tmp 46, .tmp 54]) rfl ?_); at_builtin; refine Kd.R_append slK (w0 := w) w.heap.size rfl (.tmp 46) (.tmp 54) 64 27 (.slice none 0 0) 24 rfl Try.underlying64 info_sl rfl (by decide) (by decide) (.slice A4 (⟨none, 0, 0⟩ :: vs).length c4) (⟨none, 0, 0⟩ :: vs) ⟨some ⟨g3, 64, none⟩, 64, c3' - 64⟩ [.slice (some ⟨g3, 64, none⟩) 64 (c3' - 64)] (fun k => w.heap.size ≤ k) (fun _ => False) rfl rfl rfl (fun _ h => h.elim) ?aF ?aO ?aB ?aS ?aL ?_; (case aF => intro k hk; omega); (case aO => exact HV.out); (case aB => exact R3.out); (case aS => exact hbase); (case aL => rw [List.length_cons, hvl]; omega); intro v1 w1 ho hb hg hat; have HO := Fact.mk ho; have HBw := Fact.mk hb; have HU := Fact.mk (U8.of_grown hg HV.out (by decide)); clear ho hb hg hat)
          exact ⟨⟨2, by rfl, by omega, ⟨vs ++ [⟨some ⟨g3, 64, none⟩, 64, c3' - 64⟩], by exact HO.out, by rw [show (threeOf l).take 2 = (threeOf l).take 1 ++ [_] from rfl]; exact (HVr.out.u8 HU.out).snoc (((G3.out.u8 R2.out).u8 HU.out).cut 64 128 (by omega) (by rw [hp]; omega))⟩, ⟨R2.out.trans HU.out⟩, HBw⟩, by simp [intOf]⟩
        · go_wp2_with ((with_reducible refine gate_builtin (b := .append) (xs := #[.tmp 46, .tmp 54]) rfl ?_); at_builtin; refine Kd.R_append slK (w0 := w) w.heap.size rfl (.tmp 46) (.tmp 54) 64 27 (.slice none 0 0) 24 rfl Try.underlying64 info_sl rfl (by decide) (by decide) (.slice A4 (⟨none, 0, 0⟩ :: vs).length c4) (⟨none, 0, 0⟩ :: vs) ⟨some ⟨g3, 128, none⟩, 64, c3' - 128⟩ [.slice (some ⟨g3, 128, none⟩) 64 (c3' - 128)] (fun k => w.heap.size ≤ k) (fun _ => False) rfl rfl rfl (fun _ h => h.elim) ?aF ?aO ?aB ?aS ?aL ?_; (case aF => intro k hk; omega); (case aO => exact HV.out); (case aB => exact R3.out); (case aS => exact hbase); (case aL => rw [List.length_cons, hvl]; omega); intro v1 w1 ho hb hg hat; have HO := Fact.mk ho; have HBw := Fact.mk hb; have HU := Fact.mk (U8.of_grown hg HV.out (by decide)); clear ho hb hg hat)
          exact ⟨⟨3, by rfl, by omega, ⟨vs ++ [⟨some ⟨g3, 128, none⟩, 64, c3' - 128⟩], by exact HO.out, by rw [show (threeOf l).take 3 = (threeOf l).take 2 ++ [_] from rfl]; exact (HVr.out.u8 HU.out).snoc (((G3.out.u8 R2.out).u8 HU.out).cut 128 192 (by omega) (by rw [hp]; omega))⟩, ⟨R2.out.trans HU.out⟩, HBw⟩, by simp [intOf]⟩
        · have I3 : Fact (∃ vs' : List SV, Kd.R slK 27 wr w.heap.size (fun k => w.heap.size ≤ k) (.slice A4 (⟨none, 0, 0⟩ :: vs : List SV).length c4) (⟨none, 0, 0⟩ :: vs') ∧ BRows wr w.heap.size vs' (threeOf l ++ (l.take 0).map fun c => pad c.2)) := ⟨vs, HV.out, by rw [List.take_zero, List.map_nil, List.append_nil]; exact HVr.out⟩
          have N4 := Fact.mk (N3.out.u8 R2.out)
          clear HV HVr N3
          go_wp2_with fail
          clear R2 hbase G3
          go_loopw [4, 59] (fun v4 v59 wq => ∃ j : Nat, v59 = .int .i64 (j : Int) ∧ j ≤ l.length ∧ Fact (∃ vs : List SV, Kd.R slK 27 wq w.heap.size (fun k => w.heap.size ≤ k) v4 (⟨none, 0, 0⟩ :: vs) ∧ BRows wq w.heap.size vs (threeOf l ++ (l.take j).map fun c => pad c.2)) ∧ Fact (BRow wq w.heap.size ⟨some ⟨w.heap.size + 1, 0, none⟩, 2, 2⟩ (two (l.length : Int))) ∧ Fact (Below w.heap.size w wq)) (fun _ v _ => l.length - (intOf v).toNat)
          case atStart => exact ⟨0, rfl, Nat.zero_le _, I3, N4, R3⟩
          case round =>
            clear I3 R3 N4 hvl
            obtain ⟨j, rfl, hj, R1, R2, R3⟩ := hrel
            obtain ⟨vs2, hV, hR⟩ := R1.out
            obtain ⟨A5, c5, rfl⟩ := Kd.R_slice hV
            have HV := Fact.mk hV
            have HVr := Fact.mk hR
            have hvl : vs2.length = 3 + j := by
              have := hR.1
              rw [this, List.length_append, List.length_map, List.length_take]
              show 3 + min j l.length = 3 + j
              omega
            clear R1 hV hR
            have HV2 : Fact (Kd.R slK 27 wr w.heap.size (fun k => w.heap.size ≤ k) (.slice A5 (3 + j + 1) c5) (⟨none, 0, 0⟩ :: vs2)) := ⟨by have := HV.out; rwa [List.length_cons, hvl] at this⟩
            have hbase : w.heap.size ≤ wr.heap.size := R3.out.size
            by_cases hlt3 : j < l.length
            · have hlt2 : (j : Int) < (l.length : Int) := by omega
              have hx : l[j]? = some l[j] := List.getElem?_eq_getElem hlt3
              have HX := Fact.mk hx
              obtain ⟨hb1, hb2, hb3⟩ := HB.out l[j] (List.getElem_mem hlt3)
              obtain ⟨ad, As, cs, hA, hs, hc⟩ := HC.out.at_ hx
              subst hA
              obtain ⟨c0, c1⟩ := hc wr (Only.of_below R3.out S)
              have HSee := Fact.mk (hs.step (Only.of_below R3.out S))
              clear hs hc hx
              generalize l[j] = x at *
              go_wp2_with fail
              refine (full_any As cs x.2 _ hb3 (HSee.out.reads _ (Only.alloc S wr _))).mono ?_
              rintro e w4 ⟨rfl, rfl⟩
              have NR := Fact.mk (BRow.new (wr.alloc (.cells #[.int .i64 x.1, .slice As x.2.length cs] 47)) (pad x.2) 64 (by rw [pad_length]; exact Nat.le_refl _) (by rw [pad_length]; decide))
              rw [pad_length] at NR
              have UW := Fact.mk ((U8.alloc wr (.cells #[.int .i64 x.1, .slice As x.2.length cs] 47)).trans (U8.alloc _ (.cells ((pad x.2).map (Value.int .u8)).toArray 5)))
              have OW := Fact.mk (Kd.R_alloc (Kd.R_alloc HV2.out (.cells #[.int .i64 x.1, .slice As x.2.length cs] 47)) (.cells ((pad x.2).map (Value.int .u8)).toArray 5))
              have BW : Fact (Below w.heap.size w ((wr.alloc (.cells #[.int .i64 x.1, .slice As x.2.length cs] 47)).alloc (.cells ((pad x.2).map (Value.int .u8)).toArray 5))) := ⟨(R3.out.alloc hbase _).alloc (by simp; omega) _⟩
              have SZ : Fact (((wr.alloc (.cells #[.int .i64 x.1, .slice As x.2.length cs] 47)).alloc (.cells ((pad x.2).map (Value.int .u8)).toArray 5)).heap.size = wr.heap.size + 2 ∧ (wr.alloc (.cells #[.int .i64 x.1, .slice As x.2.length cs] 47)).heap.size = wr.heap.size + 1) := ⟨by simp, by simp⟩
              go_wp2_with ((with_reducible refine gate_builtin (b := .append) (xs := #[.tmp 63, .tmp 67]) rfl ?_); at_builtin; refine Fact.out (p := _) ?_)
              refine Fact.mk ?_
              refine Kd.R_append slK (w0 := w) w.heap.size rfl (.tmp 63) (.tmp 67) 64 27 (.slice none 0 0) 24 rfl Try.underlying64 info_sl rfl (by decide) (by decide) (.slice A5 (3 + j + 1) c5) (⟨none, 0, 0⟩ :: vs2) ⟨some ⟨wr.heap.size + 1, 0, none⟩, 64, 64⟩ [.slice (some ⟨wr.heap.size + 1, 0, none⟩) 64 64] (fun k => w.heap.size ≤ k) (fun _ => False) rfl ?aX rfl (fun _ h => h.elim) ?aF ?aO ?aB ?aS ?aL ?_; (case aX => rw [SZ.out.1]; rfl); (case aF => intro k hk; rw [SZ.out.1] at hk; omega); (case aO => exact OW.out); (case aB => exact BW.out); (case aS => rw [SZ.out.1]; omega); (case aL => rw [List.length_cons, hvl]; omega); intro v1 w1 ho hb hg hat; have HO := Fact.mk ho; have HBw := Fact.mk hb; have HU := Fact.mk (U8.of_grown hg OW.out (by decide)); clear ho hb hg hat
              go_wp2_with fail
              refine ⟨⟨_, _, _, _, _, _, _, _, _, _, _, _, _, ?_, rfl⟩, ?_⟩
              rotate_left
              · simp [intOf]; omega
              refine ⟨j + 1, by go_num, by omega, ⟨vs2 ++ [⟨some ⟨wr.heap.size + 1, 0, none⟩, 64, 64⟩], by exact HO.out, ?_⟩, ⟨(R2.out.u8 UW.out).u8 HU.out⟩, HBw⟩
              rw [List.take_add_one, HX.out, Option.toList_some, List.map_append, ← List.append_assoc]
              refine ((HVr.out.u8 UW.out).u8 HU.out).snoc ?_
              have := (NR.out.u8 HU.out).lower (base' := w.heap.size) (by rw [SZ.out.2]; omega)
              rw [SZ.out.2] at this
              exact this
            · have he : j = l.length := by omega
              subst he
              have hlt2 : ¬ ((l.length : Int) < (l.length : Int)) := by omega
              have HVr2 : Fact (BRows wr w.heap.size vs2 (imagesOf l)) := ⟨by have := HVr.out; rwa [List.take_length, ← imagesOf_eq] at this⟩
              clear HVr HV
              have hpos : 0 < vs2.length := by omega
              obtain ⟨inner5, ho5⟩ := Kd.R_own HV2.out
              obtain ⟨g5, c5', e5, _, _⟩ := ho5.form (by simp)
              injection e5 with e5 _ e6
              subst e5 e6
              clear ho5 inner5
              have hc5 : 3 + l.length + 1 ≤ c5 := by
                obtain ⟨_, _, e, h2, _⟩ := Kd.R_reads HV2.out
                injection e with _ _ e
                subst e
                simp [hvl] at h2; omega
              go_wp2_with fail
              rw [show ((⟨none, 0, 0⟩ : SV) :: vs2).length = 3 + l.length + 1 from by rw [List.length_cons, hvl]]
              skip
              refine start_ (n := 7) (S := fun _ => True) (ds := []) #[false, false, false, false, false, false, false] (by kernel_rfl) rfl rfl trivial (fun _ => ?_)
              have RI : Fact (Rws (fun _ => False) wr.drew (some ⟨g5, 1, none⟩) (imagesOf l)) := ⟨Rws.tail (w := wr.drew) (Kd.R_drew HV2.out) (HVr2.out.u8 (U8.drew wr)) hpos (fun _ _ h => h) (fun _ h => h.elim)⟩
              have RO := Fact.mk (show Kd.R slK 27 wr.drew w.heap.size (fun k => w.heap.size ≤ k) (.slice (some ⟨g5, 0, none⟩) (3 + l.length + 1) c5) (⟨none, 0, 0⟩ :: vs2) from Kd.R_drew HV2.out)
              have RB := Fact.mk (HVr2.out.u8 (U8.drew wr))
              have RN := Fact.mk (R2.out.u8 (U8.drew wr))
              have BB : Fact (Below w.heap.size w wr.drew) := ⟨R3.out.drew⟩
              have hW : w.heap.size ≤ wr.drew.heap.size := hbase
              clear HV2 HVr2 R2 R3
              generalize wr.drew = W at *
              clear hbase
              refine pure_ (i := 0) (N := some 70) (v := .slice (some ⟨w.heap.size + 1, 0, none⟩) 2 2) (a' := ?_) #[true, false, false, false, false, false, false] rfl rfl (by kernel_rfl) (fun _ _ _ h => h) (Or.inl ⟨by rfl, exec_move (.inl rfl) rfl⟩) ?_ ?_
              rotate_left
              · simp only [Act.put, List.setIfInBounds_toArray, List.set_cons_zero, List.set_cons_succ, i64_w, i32_w]
                rfl
              refine pure_ (i := 3) (N := some 73) (v := .slice (some ⟨g5, 0, none⟩) (3 + l.length + 1) c5) (a' := ?_) #[true, false, false, true, false, false, false] rfl rfl (by kernel_rfl) (fun _ _ _ h => h) (Or.inl ⟨by rfl, exec_move (.inl rfl) rfl⟩) ?_ ?_
              rotate_left
              · simp only [Act.put, List.setIfInBounds_toArray, List.set_cons_zero, List.set_cons_succ, i64_w, i32_w]
                rfl
              refine pure_ (i := 4) (N := some 74) (v := .slice (some ⟨g5, 1, none⟩) (3 + l.length) (c5 - 1)) (a' := ?_) #[true, false, false, true, true, false, false] rfl rfl (by kernel_rfl) (fun _ _ _ h => h) (Or.inl ⟨by rfl, exec_slice rfl (slice_from1 g5 (3 + l.length) c5 hc5 (by omega))⟩) ?_ ?_
              rotate_left
              · simp only [Act.put, List.setIfInBounds_toArray, List.set_cons_zero, List.set_cons_succ, i64_w, i32_w]
                rfl
              refine one_ (i := 1) (N := some 71) #[true, true, false, true, true, false, false] rfl rfl (by kernel_rfl) (by decide) (fun K hK => ?_)
              refine value_ (v := .slice (some ⟨W.heap.size, 0, none⟩) 1 1) (w1 := W.alloc (.cells #[.slice (some ⟨w.heap.size + 1, 0, none⟩) 2 2] 27)) (by rfl) rfl (exec_build1 rfl rfl (build_row W (some ⟨w.heap.size + 1, 0, none⟩) 2 2)) ?_
              refine hK.out _ _ trivial (fun _ => ?_)
              clear hK K
              refine norm_ (a' := ?_) ?_ ?_
              rotate_left
              · show Act.put _ (some 71) _ = _
                simp only [Act.put, List.setIfInBounds_toArray, List.set_cons_zero, List.set_cons_succ, i64_w, i32_w]
                rfl
              have RS1 : Fact (Rws (fun _ => False) (W.alloc (.cells #[.slice (some ⟨w.heap.size + 1, 0, none⟩) 2 2] 27)) (some ⟨W.heap.size, 0, none⟩) [two (l.length : Int)]) :=
                ⟨Rws.of_rows (base := w.heap.size) (b0 := W.heap.size) (ok := fun _ => True) (n := 1) (c := 1) (vs := [⟨some ⟨w.heap.size + 1, 0, none⟩, 2, 2⟩]) ⟨fun _ _ => trivial, OwnRow.lit W W.heap.size (Reps.one (p := (⟨some ⟨w.heap.size + 1, 0, none⟩, 2, 2⟩ : SV)) (v := .slice (some ⟨w.heap.size + 1, 0, none⟩) 2 2) rfl (Reps.none _ _)) (Nat.le_refl _) (by simp)⟩ (BRows.cons (vs := []) (bs := []) ⟨rfl, fun i s b h => by simp at h⟩ (RN.out.u8 (U8.alloc W _))) (fun _ _ h => h) (fun _ h => h.elim)⟩
              have RI2 := Fact.mk (RI.out.step (Only.alloc (fun _ => False) W (.cells #[.slice (some ⟨w.heap.size + 1, 0, none⟩) 2 2] 27)))
              have RO2 := Fact.mk (Kd.R_alloc RO.out (.cells #[.slice (some ⟨w.heap.size + 1, 0, none⟩) 2 2] 27))
              have RB2 := Fact.mk (RB.out.u8 (U8.alloc W (.cells #[.slice (some ⟨w.heap.size + 1, 0, none⟩) 2 2] 27)))
              have RN2 := Fact.mk (RN.out.u8 (U8.alloc W (.cells #[.slice (some ⟨w.heap.size + 1, 0, none⟩) 2 2] 27)))
              have BB2 := Fact.mk (BB.out.alloc hW (.cells #[.slice (some ⟨w.heap.size + 1, 0, none⟩) 2 2] 27))
              have hW2 : w.heap.size ≤ (W.alloc (.cells #[.slice (some ⟨w.heap.size + 1, 0, none⟩) 2 2] 27)).heap.size := by simp; omega
              clear RI RO RB RN BB
              generalize hWW : W.alloc (.cells #[.slice (some ⟨w.heap.size + 1, 0, none⟩) 2 2] 27) = W2 at *
              clear hWW
              refine one_ (i := 2) (N := some 72) #[true, true, true, true, true, false, false] rfl rfl (by kernel_rfl) (by decide) (fun K hK => ?_)
              refine goes_ Try.func35 (by kernel_rfl) rfl #[.int .u32 2166136261, .slice (some ⟨W.heap.size, 0, none⟩) 1 1] (by rfl) rfl rfl (by (try simp only [List.map_toArray, List.map_cons, List.map_nil]); first | done | rfl) ?_
              refine (sum_any 2166136261 (by omega) (some ⟨W.heap.size, 0, none⟩) 1 [two (l.length : Int)] RS1.out).mono ?_
              rintro e w5 ⟨rfl, rfl⟩
              refine ⟨_, rfl, ?_⟩
              refine hK.out _ _ trivial (fun _ => ?_)
              clear hK K
              refine norm_ (a' := ?_) ?_ ?_
              rotate_left
              · show Act.put _ (some 72) _ = _
                simp only [Act.put, List.setIfInBounds_toArray, List.set_cons_zero, List.set_cons_succ, i64_w, i32_w]
                rfl
              refine one_ (i := 5) (N := some 75) #[true, true, true, true, true, true, false] rfl rfl (by kernel_rfl) (by decide) (fun K hK => ?_)
              refine goes_ Try.func35 (by kernel_rfl) rfl #[.int .u32 (sumOf 2166136261 [two (l.length : Int)]), .slice (some ⟨g5, 1, none⟩) (3 + l.length) (c5 - 1)] (by rfl) rfl rfl (by (try simp only [List.map_toArray, List.map_cons, List.map_nil]); first | done | rfl) ?_
              have hil : (imagesOf l).length = 3 + l.length := by rw [imagesOf_eq, List.length_append, List.length_map]; rfl
              have hsr := sumOf_range [two (l.length : Int)] 2166136261 (by omega)
              have hsum := sum_any (sumOf 2166136261 [two (l.length : Int)]) hsr (some ⟨g5, 1, none⟩) (c5 - 1) (imagesOf l) RI2.out
              rw [hil] at hsum
              refine hsum.mono ?_
              clear hsum
              rintro e w5 ⟨rfl, rfl⟩
              refine ⟨_, rfl, ?_⟩
              refine hK.out _ _ trivial (fun _ => ?_)
              clear hK K
              refine norm_ (a' := ?_) ?_ ?_
              rotate_left
              · show Act.put _ (some 75) _ = _
                simp only [Act.put, List.setIfInBounds_toArray, List.set_cons_zero, List.set_cons_succ, i64_w, i32_w]
                rfl
              have hss := sumOf_range (imagesOf l) _ hsr
              have hsA : sumOf (sumOf 2166136261 [two (l.length : Int)]) (imagesOf l) = sumAll l := rfl
              rw [hsA] at hss ⊢
              obtain ⟨hs0, hs1⟩ := hss
              have hHd : Fact (headOf l = pad ([82, 68] ++ two (l.length : Int) ++ [sumAll l / 16777216 % 256, sumAll l / 65536 % 256, sumAll l / 256 % 256, sumAll l % 256])) := ⟨rfl⟩
              clear hsr hsA RI2 RS1
              generalize sumAll l = s at *
              refine pure_ (i := 6) (N := some 11) (v := .int .u32 s) (a' := ?_) #[true, true, true, true, true, true, true] rfl rfl (by kernel_rfl) (fun _ _ _ h => h) (Or.inl ⟨by rfl, exec_move (.inr rfl) rfl⟩) ?_ ?_
              rotate_left
              · simp only [Act.put, List.setIfInBounds_toArray, List.set_cons_zero, List.set_cons_succ, i64_w, i32_w]
                rfl
              refine done_ (by kernel_rfl) ?_
              have hcv := const_two W2 82 68
              go_wp2_with ((with_reducible refine gate_builtin (b := .append) (xs := #[.tmp 78, .tmp 79]) rfl ?_); at_builtin; refine Fact.out (p := _) ?_)
              clear hcv
              refine Fact.mk ?_
              have SZ : Fact ((W2.alloc (.cells #[.int .u8 82, .int .u8 68] 5 (2, 3))).heap.size = W2.heap.size + 1) := ⟨by simp⟩
              have N2 := Fact.mk (RN2.out.u8 (U8.alloc W2 (.cells #[.int .u8 82, .int .u8 68] 5 (2, 3))))
              refine wpList_grow rfl (.tmp 78) (.tmp 79) 27 5 rfl Try.underlying27 info_u8 ⟨W2.heap.size, 0, none⟩ 2 2 [82, 68] rfl ⟨w.heap.size + 1, 0, none⟩ 2 2 (two (l.length : Int)) rfl (reads_marked W2 82 68 (2, 3)) N2.out.reads (by omega) (by omega) ?_
              intro v3 w3 ho hb
              rw [SZ.out] at ho hb
              obtain ⟨A3', c3'', rfl⟩ := Kd.R_slice ho
              have R3 := Fact.mk (Kd.R_mono (Kd.R_lower ho (Nat.le_succ _)) (ok' := fun k => W2.heap.size ≤ k) (fun k hk => Nat.le_of_succ_le hk))
              have B3 : Fact (Below W2.heap.size W2 w3) := ⟨(below_alloc (Below.refl _ _) _).trans (hb.mono (Nat.le_succ _))⟩
              clear ho hb N2 SZ
              refine norml_ (a' := ?_) ?_ ?_
              rotate_left
              · show Act.put _ (some 80) _ = _
                simp only [Act.put, List.setIfInBounds_toArray, List.set_cons_zero, List.set_cons_succ, i64_w, i32_w]
                rfl
              go_wp2_with ((with_reducible refine gate_builtin (b := .append) (xs := #[.tmp 80, .tmp 92]) rfl ?_); at_builtin; refine Fact.out (p := _) ?_)
              refine Fact.mk ?_
              have e4 : [s / 16777216 % 256, s / 65536 % 256, s / 256 % 256, s % 256] = [s / 16777216, s / 65536 % 256, s / 256 % 256, s % 256] := by congr 1; omega
              rw [e4] at hHd
              clear e4
              have hb3 : W2.heap.size ≤ w3.heap.size := B3.out.size
              refine Kd.R_append_rows (Kd.int .u8) (w0 := W2) W2.heap.size rfl (.tmp 80) (.tmp 92) 27 5 (.int .u8 0) 1 rfl Try.underlying27 info_u8 rfl (by decide) (by omega) (.slice A3' ([82, 68] ++ two (l.length : Int)).length c3'') ([82, 68] ++ two (l.length : Int)) [s / 16777216, s / 65536 % 256, s / 256 % 256, s % 256] (some ⟨w3.heap.size, 0, none⟩) 4 4 (fun k => W2.heap.size ≤ k) (fun _ => False) rfl rfl ?aO ?aR (fun _ _ h => h) (fun _ h => h.elim) ?aF ?aB ?aS ?aL ?_
              case aR => exact (bytes_new w3 [s / 16777216, s / 65536 % 256, s / 256 % 256, s % 256] 5 (by simp)).reads
              case aO => exact Kd.R_alloc R3.out _
              case aF => intro k hk; simp at hk; omega
              case aB => exact B3.out.alloc hb3 _
              case aS => simp; omega
              case aL => simp [two]
              intro v4 w4 ho hb hg hat
              obtain ⟨A4', c4', rfl⟩ := Kd.R_slice ho
              have R4 := Fact.mk ho
              have B4 := Fact.mk hb
              clear ho hb hg hat R3 B3 hb3
              have hl8 : ([82, 68] ++ two (l.length : Int) ++ [s / 16777216, s / 65536 % 256, s / 256 % 256, s % 256]).length ≤ 64 := by simp [two]
              generalize [82, 68] ++ two (l.length : Int) ++ [s / 16777216, s / 65536 % 256, s / 256 % 256, s % 256] = hd at *
              refine norml_ (a' := ?_) ?_ ?_
              rotate_left
              · show Act.put _ (some 93) _ = _
                simp only [Act.put, List.setIfInBounds_toArray, List.set_cons_zero, List.set_cons_succ, i64_w, i32_w]
                rfl
              go_wp2_with fail
              refine (full_any A4' c4' hd w4 hl8 (own_reads_ R4.out).2.2).mono ?_
              rintro e w5 ⟨rfl, rfl⟩
              have BW := Fact.mk (BB2.out.trans (B4.out.mono hW2))
              have hW4 : w.heap.size ≤ w4.heap.size := BW.out.size
              have RO5 := Fact.mk (Kd.R_alloc (Kd.R_below RO2.out B4.out) (.cells ((pad hd).map (Value.int .u8)).toArray 5))
              have RB5 := Fact.mk ((RB2.out.u8 (U8.of_below B4.out)).u8 (U8.alloc w4 (.cells ((pad hd).map (Value.int .u8)).toArray 5)))
              have NR := Fact.mk ((BRow.new w4 (pad hd) 64 (by rw [pad_length]; exact Nat.le_refl _) (by rw [pad_length]; decide)).lower hW4)
              rw [pad_length] at NR
              have BW5 := Fact.mk (BW.out.alloc hW4 (.cells ((pad hd).map (Value.int .u8)).toArray 5))
              have hW5 : w.heap.size ≤ (w4.alloc (.cells ((pad hd).map (Value.int .u8)).toArray 5)).heap.size := by simp; omega
              obtain ⟨f0, f1, _⟩ := first_cell RO5.out
              have hg5 : w.heap.size ≤ g5 := RO2.out.1 g5 (by simp [Value.ownBlock])
              clear RO2 RB2 RN2 B4 BB2 R4 BW
              generalize (w4.alloc (.cells ((pad hd).map (Value.int .u8)).toArray 5)) = w5 at *
              dsimp only
              go_wp2_with ((with_reducible refine gate_op (.indexAddr 64 (.tmp 76) (.const (.int .i64 0))) rfl ?_); refine Fact.out (p := _) ?_)
              refine Fact.mk ?_
              refine wpList_value rfl (exec_index rfl (index_first _ g5 (3 + l.length) c5)) ?_
              refine norml_ (a' := ?_) ?_ ?_
              rotate_left
              · show Act.put _ (some 95) _ = _
                simp only [Act.put, List.setIfInBounds_toArray, List.set_cons_zero, List.set_cons_succ, i64_w, i32_w]
                rfl
              refine wpList_skip0 rfl rfl (exec_store2 (vx := .pointer (some ⟨g5, 0, none⟩)) (vy := .slice (some ⟨w4.heap.size, 0, none⟩) 64 64) rfl rfl rfl (store_first _ g5 _ (some ⟨w4.heap.size, 0, none⟩) 64 64 f0 f1)) ?_
              go_wp2_with fail
              go_ret
              have RO6 := first_put RO5.out ⟨some ⟨w4.heap.size, 0, none⟩, 64, 64⟩
              have RB6 := (RB5.out.cons NR.out).u8 (first_u8 RO5.out (.slice (some ⟨w4.heap.size, 0, none⟩) 64 64))
              refine ⟨g5, c5, ?_, by omega, fun S' hS' => ?_, BW5.out.setCell hg5 _⟩
              · have e34 : 3 + l.length + 1 = 4 + l.length := by omega
                first | (rw [e34]; done) | (rw [← e34]; done) | (simp; omega) | (simp [e34]; done) | (congr 2; omega)
              · rw [show jobOf l = pad hd :: imagesOf l from by unfold jobOf; rw [hHd.out]]
                exact Rws.of_rows RO6 RB6 (fun k hk hs => by have := hS' k hs; omega) hS'
end Go.Proofs.Ytjpbpeiknnloeaa.Dk
