/-
What the laws' 'done' does: bytes, when changes were done.
-/
import Derived.Test.YtjpbpeiknnloeaaRdW12
namespace Go.Proofs.Ytjpbpeiknnloeaa.Dk
open Go.RowKit Go.Maps Go.Proofs.YtjpbpeiknnloeaaW.PrintWords Go.Proofs.YtjpbpeiknnloeaaW.PrintLast Go.Proofs.YtjpbpeiknnloeaaW.PrintMore
set_option linter.unusedVariables false
set_option linter.unusedSimpArgs false

/-- One change done. -/
def doStep (b : List Int) (c : Ch) : List Int := b.take (64 * c.1.toNat) ++ pad c.2 ++ b.drop (64 * c.1.toNat + 64)
theorem doStep_length {b : List Int} {c : Ch} {k : Nat} (hk : c.1 = (k : Int)) (h : 64 * k + 64 ≤ b.length) : (doStep b c).length = b.length := by
  unfold doStep
  rw [hk, Int.toNat_natCast]
  simp only [List.length_append, List.length_take, List.length_drop, pad_length]
  omega
theorem doneOf_foldl (b : List Int) (l : List Ch) : doneOf b l = l.foldl doStep b := rfl
def doneTo (b : List Int) (l : List Ch) (j : Nat) : List Int := (l.take j).foldl doStep b
theorem doneTo_step (b : List Int) {l : List Ch} {j : Nat} {x : Ch} (hx : l[j]? = some x) : doneTo b l (j + 1) = doStep (doneTo b l j) x := by
  unfold doneTo
  rw [List.take_add_one, hx, List.foldl_append]
  rfl
theorem doneTo_length {b : List Int} {l : List Ch} (hok : ∀ x ∈ l, 0 ≤ x.1 ∧ 64 * x.1 + 64 ≤ b.length ∧ x.2.length ≤ 64) (j : Nat) : (doneTo b l j).length = b.length := by
  induction j with
  | zero => rfl
  | succ j ih =>
    cases hx : l[j]? with
    | none =>
      have : doneTo b l (j + 1) = doneTo b l j := by unfold doneTo; rw [List.take_add_one, hx]; simp
      rw [this, ih]
    | some x =>
      obtain ⟨h1, h2, h3⟩ := hok x (List.mem_of_getElem? hx)
      rw [doneTo_step b hx, doStep_length (k := x.1.toNat) (by omega) (by omega), ih]
theorem own_puts {base n c g : Nat} {ok : Nat → Prop} : ∀ (s : List Int) {w : World} {l : List Int} (lo : Nat), OwnB w base ok (.slice (some ⟨g, 0, none⟩) n c) l → lo + s.length ≤ l.length →
    OwnB (w.setCells g lo (s.map (Value.int .u8))) base ok (.slice (some ⟨g, 0, none⟩) n c) (l.take lo ++ s ++ l.drop (lo + s.length)) ∧ Only (fun k => k = g) w (w.setCells g lo (s.map (Value.int .u8)))
  | [], w, l, lo, h, hl => ⟨by show OwnB w _ _ _ _; simpa using h, Only.refl _ _⟩
  | x :: s, w, l, lo, h, hl => by
    have hlo : lo < l.length := by simp at hl; omega
    obtain ⟨h1, h2⟩ := own_puts s (lo + 1) (own_put h lo x) (by simp at hl ⊢; omega)
    have e1 : (l.set lo x).take (lo + 1) = l.take lo ++ [x] := by
      rw [List.take_succ_eq_append_getElem (by simp; omega), List.getElem_set_self, List.take_set_of_le (Nat.le_refl lo)]
    have e2 : (l.set lo x).drop (lo + 1 + s.length) = l.drop (lo + (s.length + 1)) := by
      rw [List.drop_set_of_lt (by omega)]; congr 1; omega
    rw [e1, e2] at h1
    refine ⟨?_, (Only.setCell (S := fun k => k = g) w rfl _).trans h2⟩
    show OwnB ((w.setCell ⟨g, lo, none⟩ (.int .u8 x)).setCells g (lo + 1) (s.map (Value.int .u8))) _ _ _ _
    have e3 : l.take lo ++ x :: s ++ l.drop (lo + (x :: s).length) = l.take lo ++ [x] ++ s ++ l.drop (lo + (s.length + 1)) := by simp
    rw [e3]; exact h1
set_option maxRecDepth 100000 in
/-- 'copy(out[lo:], s)' into a row of one's own. -/
theorem copy_at {w : World} {base : Nat} {ok : Nat → Prop} {g n c : Nat} {l : List Int} (h : OwnB w base ok (.slice (some ⟨g, 0, none⟩) n c) l) (lo : Nat) (m c' : Nat) (hm : m = l.length - lo) (hlo : lo + 64 ≤ l.length) {A2 : Option Addr} {c2 : Nat} {s : List Int} (hs : s.length = 64) (hr : ReadB w A2 64 s) (ty : TypeId) :
    (Builtin.copy_ #[27, 27] ty #[.slice (some ⟨g, lo, none⟩) m c', .slice A2 64 c2]).run Try.prog w = .ok (.int .i64 64) (w.setCells g lo (s.map (Value.int .u8))) := by
  have hse : (Try.prog.info? 5).map (·.size) = some 1 := by kernel_rfl
  obtain ⟨ad, rfl, _⟩ := hr.2.2 (by decide)
  have hlen : (s.map (Value.int .u8)).length = 64 := by rw [List.length_map, hs]
  have hn := (own_reads_ h).1
  have := run_copy_cells (P := Try.prog) w 27 27 ty 5 g lo m c' ad 64 c2 (s.map (Value.int .u8)) Try.underlying27 hse (by rw [hlen]; show 64 = min 64 m; omega)
    (C_cells hr rfl)
    (fun j hj => by
      rw [hlen] at hj
      rw [own_cell h (lo + j) l[lo + j] (List.getElem?_eq_getElem (by omega))]; rfl)
    (fun j hj => by
      rw [hlen] at hj
      obtain ⟨g', x, e, _, _, _, hf⟩ := own_at h hn.symm (j := lo + j) (by omega)
      injection e with e
      injection e with e
      subst e
      exact hf) (by intro v hv; obtain ⟨x, _, rfl⟩ := List.mem_map.1 hv; rfl)
  rw [hlen] at this
  exact this
set_option maxHeartbeats 1000000 in
set_option maxRecDepth 100000 in
theorem done_any {S : Nat → Prop} {w : World} (B : Option Addr) (cb : Nat) (b : List Int) (hb : ReadB w B b.length b) (A : Option Addr) (c : Nat) (l : List Ch) (hl : Chs S w A l) (hs : b.length ≤ 100000) (hpos : 64 ≤ b.length)
    (hok : ∀ x ∈ l, 0 ≤ x.1 ∧ 64 * x.1 + 64 ≤ b.length ∧ x.2.length ≤ 64) :
    Calls Try.prog 16 #[.slice B b.length cb, .slice A l.length c] w fun e w' => ∃ v, e = .returned v ∧ OwnB w' w.heap.size (fun k => w.heap.size ≤ k) v (doneOf b l) ∧ Below w.heap.size w w' := by
  have HB := Fact.mk hb
  have HC := Fact.mk hl
  have HOk := Fact.mk hok
  have hle := hl.le
  have hmk := made64
  clear hb hl hok
  go_enter Try.func16, Try.ntmps16
  go_wp2_with ((with_reducible refine gate_builtin (b := .append) (xs := #[.tmp 9, .tmp 10]) rfl ?_); at_builtin; refine Fact.out (p := _) ?_)
  refine Fact.mk ?_
  refine Kd.R_append_rows (Kd.int .u8) (w0 := w) w.heap.size rfl (.tmp 9) (.tmp 10) 27 5 (.int .u8 0) 1 rfl Try.underlying27 info_u8 rfl (by decide) (by omega) (.slice (some ⟨w.heap.size, 0, none⟩) 0 0) [] b B b.length cb (fun k => w.heap.size ≤ k) (fun _ => False) rfl rfl ?aO ?aR (fun _ _ h => h) (fun _ h => h.elim) ?aF ?aB ?aS ?aL ?_
  case aO => exact ⟨fun k hk => by simp [Value.ownBlock] at hk; omega, OwnRow.lit w w.heap.size (Reps.none _ _) (Nat.le_refl _) (by simp)⟩
  case aR => exact Kd.C_below HB.out ((Below.refl _ _).alloc (Nat.le_refl _) _)
  case aF => intro k hk; simp at hk; omega
  case aB => exact (Below.refl _ _).alloc (Nat.le_refl _) _
  case aS => simp
  case aL => simp; omega
  intro v1 w1 ho hb hg hat
  rw [List.nil_append] at ho
  obtain ⟨A5, c5, rfl, hc5, -⟩ := Kd.R_reads ho
  obtain ⟨g, c5', e5, -, -⟩ := (Kd.own_of_R ho).form (by omega)
  injection e5 with e5 e6 e7
  clear e6
  subst e5 e7
  have hge : w.heap.size ≤ g := ho.1 g (by simp [Value.ownBlock])
  have I0 : Fact (OwnB w1 w.heap.size (fun k => w.heap.size ≤ k) (.slice (some ⟨g, 0, none⟩) b.length c5) (doneTo b l 0)) := ⟨ho⟩
  have B1 := Fact.mk hb
  clear ho hb hg hat
  go_wp2_with fail
  go_loopw [14] (fun v14 wr => ∃ j : Nat, v14 = .int .i64 (j : Int) ∧ j ≤ l.length ∧ Fact (OwnB wr w.heap.size (fun k => w.heap.size ≤ k) (.slice (some ⟨g, 0, none⟩) b.length c5) (doneTo b l j)) ∧ Fact (Below w.heap.size w wr)) (fun v _ => l.length - (intOf v).toNat)
  case atStart => exact ⟨0, rfl, Nat.zero_le _, I0, B1⟩
  case round =>
    obtain ⟨j, rfl, hj, R1, R2⟩ := hrel
    clear I0 B1
    have hdl : (doneTo b l j).length = b.length := doneTo_length HOk.out j
    by_cases hlt : j < l.length
    · have hlt2 : (j : Int) < (l.length : Int) := by omega
      have hx : l[j]? = some l[j] := List.getElem?_eq_getElem hlt
      obtain ⟨o1, o2, o3⟩ := HOk.out l[j] (List.getElem_mem hlt)
      have HDS := Fact.mk (doneTo_step b hx)
      obtain ⟨ad, As, cs, hA, hs', hc⟩ := HC.out.at_ hx
      subst hA
      obtain ⟨c0, c1⟩ := hc wr (Only.of_below R2.out S)
      have HSee := Fact.mk (hs'.step (Only.of_below R2.out S))
      have hbase : w.heap.size ≤ wr.heap.size := R2.out.size
      clear hs' hc hx
      generalize l[j] = x at *
      obtain ⟨x1, d⟩ := x
      dsimp only at o1 o2 o3 c0 c1 HSee HDS
      obtain ⟨k, rfl⟩ := Int.eq_ofNat_of_zero_le o1
      replace hdl := Fact.mk hdl
      generalize doneTo b l j = bj at *
      have hk : 64 * k + 64 ≤ b.length := by omega
      have hcp : ∀ ty : TypeId, (Builtin.copy_ #[27, 27] ty #[.slice (some ⟨wr.heap.size + 1, 0, none⟩) 64 64, .slice As d.length cs]).run Try.prog ((wr.alloc (.cells #[.int .i64 (k : Int), .slice As d.length cs] 47)).alloc (.cells zc 5)) = .ok (.int .i64 (d.length : Int)) ((wr.alloc (.cells #[.int .i64 (k : Int), .slice As d.length cs] 47)).alloc (.cells ((pad d).map (Value.int .u8)).toArray 5)) := fun ty => by
        have := copy_to (wr.alloc (.cells #[.int .i64 (k : Int), .slice As d.length cs] 47)) zc rfl 5 As cs d ty o3 (HSee.out.reads _ (Only.alloc S wr _))
        rw [show (wr.alloc (.cells #[.int .i64 (k : Int), .slice As d.length cs] 47)).heap.size = wr.heap.size + 1 from by simp] at this
        exact this
      have R3 := Fact.mk (Kd.R_alloc (Kd.R_alloc R1.out (.cells #[.int .i64 (k : Int), .slice As d.length cs] 47)) (.cells ((pad d).map (Value.int .u8)).toArray 5))
      have B3 := Fact.mk ((R2.out.alloc hbase (.cells #[.int .i64 (k : Int), .slice As d.length cs] 47)).alloc (by simp; omega) (.cells ((pad d).map (Value.int .u8)).toArray 5))
      have hcp2 : ∀ ty : TypeId, (Builtin.copy_ #[27, 27] ty #[.slice (some ⟨g, 64 * k, none⟩) (b.length - 64 * k) (c5 - 64 * k), .slice (some ⟨wr.heap.size + 1, 0, none⟩) 64 64]).run Try.prog ((wr.alloc (.cells #[.int .i64 (k : Int), .slice As d.length cs] 47)).alloc (.cells ((pad d).map (Value.int .u8)).toArray 5)) = .ok (.int .i64 64) (((wr.alloc (.cells #[.int .i64 (k : Int), .slice As d.length cs] 47)).alloc (.cells ((pad d).map (Value.int .u8)).toArray 5)).setCells g (64 * k) ((pad d).map (Value.int .u8))) := fun ty => by
        refine copy_at R3.out (64 * k) _ _ (by rw [hdl.out]) (by rw [hdl.out]; omega) (pad_length d) ?_ ty
        have := (bytes_new (wr.alloc (.cells #[.int .i64 (k : Int), .slice As d.length cs] 47)) (pad d) 5 (by rw [pad_length]; decide)).reads
        rw [pad_length, show (wr.alloc (.cells #[.int .i64 (k : Int), .slice As d.length cs] 47)).heap.size = wr.heap.size + 1 from by simp] at this
        exact this
      have HP := Fact.mk (own_puts (pad d) (64 * k) R3.out (by rw [pad_length, hdl.out]; omega))
      go_wp2_with fail
      exact ⟨⟨j + 1, by go_num, by omega, ⟨by rw [HDS.out]; have h := HP.out.1; rw [pad_length] at h; exact h⟩, ⟨B3.out.trans ((HP.out.2.below (B := w.heap.size) (by have := B3.out.size; exact this) (fun k h => by rw [h]; exact hge)))⟩⟩, by simp [intOf]; omega⟩
    · have he : j = l.length := by omega
      subst he
      have hlt2 : ¬ ((l.length : Int) < (l.length : Int)) := by omega
      have HE : Fact (doneTo b l l.length = doneOf b l) := ⟨by unfold doneTo; rw [List.take_length]; rfl⟩
      rw [HE.out] at R1
      go_wp2_with fail
      go_ret
      exact ⟨_, rfl, R1.out, R2.out⟩
end Go.Proofs.Ytjpbpeiknnloeaa.Dk
