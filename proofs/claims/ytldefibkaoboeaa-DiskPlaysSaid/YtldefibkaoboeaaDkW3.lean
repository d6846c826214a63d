/-
What '(*Disk).Read' does.
-/
import Derived.Test.YtldefibkaoboeaaDkBytes
import Derived.Deep.WholeRow
import Derived.Deep.MidRow
namespace Go.Proofs.Ytldefibkaoboeaa.Dk
open Go.RowKit Go.Maps Go.Proofs.YtldefibkaoboeaaW.PrintWords Go.Proofs.YtldefibkaoboeaaW.PrintLast Go.Proofs.YtldefibkaoboeaaW.PrintMore
set_option linter.unusedVariables false
set_option linter.unusedSimpArgs false

/-- What 'Read' comes to: the bytes, and an error's number. -/
def ReadsTo (w : World) (r : List Int × Int) (e : Ending) (w' : World) : Prop :=
  ∃ v, e = .returned (.tuple #[v, .int .i64 r.2]) ∧ OwnB w' w.heap.size (fun k => w.heap.size ≤ k) v r.1 ∧ Below w.heap.size w w'
theorem zero_bool (w : World) : (zeroValue 4).run Try.prog w = .ok (.bool false) w := by kernel_rfl
theorem zero_sec (w : World) : (zeroValue 65).run Try.prog w = .ok zsec w := by kernel_rfl
theorem int_t : Try.prog.underlying 3 = some (.int .i64) := Try.underlying3
theorem IsDisk.look_bad {w : World} {L : DL} {D : PD} (h : IsDisk w L D) (i : Nat) (hi : i < 9223372036854775808) :
    (Instr.lookup 60 (.map (some L.bb)) (.int .i64 (i : Int)) false).run Try.prog w = .ok (.bool (D.bad i)) w := by
  obtain ⟨f, h3, h4⟩ := h.bads
  rw [h3.look int_t Try.underlying60 (zero_bool w) i hi, h4 i]
  cases f i <;> rfl
theorem IsDisk.look_pend {w : World} {L : DL} {D : PD} (h : IsDisk w L D) (i : Nat) (hi : i < 9223372036854775808) :
    (Instr.lookup 59 (.map (some L.bp)) (.int .i64 (i : Int)) true).run Try.prog w = .ok (.tuple #[((D.pe i).map secV).getD zsec, .bool (D.pe i).isSome]) w := by
  rw [h.pend.look_ok int_t Try.underlying59 (zero_sec w) i hi]
  cases D.pe i <;> rfl
theorem store_new (W : World) (Z cs : Array Value) (t : TypeId) (hs : Z.size = cs.size) (h1 : ∀ v ∈ cs.toList, v.oneCell' = true) :
    (storeCells ⟨W.heap.size, 0, none⟩ cs.toList).run Try.prog (W.alloc (.cells Z t)) = .ok () (W.alloc (.cells cs t)) := by
  have := run_storeCells_from (P := Try.prog) W.heap.size t cs.toList 0 Z (W.alloc (.cells Z t)) (heap_alloc_new W _) (by simp [hs]) h1
  rw [this, List.take_zero, List.nil_append, Array.toArray_toList, World.setRow_alloc_new]
theorem one_bytes (b : List Int) : ∀ v ∈ (b.map (Value.int .u8)).toArray.toList, v.oneCell' = true := by
  intro v hv
  obtain ⟨x, _, rfl⟩ := List.mem_map.1 (by simpa using hv)
  rfl
theorem reads_new (W : World) (b : List Int) (t : TypeId) (hb : b.length ≤ 9223372036854775807) : ReadB (W.alloc (.cells (b.map (Value.int .u8)).toArray t)) (some ⟨W.heap.size, 0, none⟩) b.length b := by
  refine ⟨rfl, hb, fun _ => ⟨_, rfl, fun j p hp => ⟨[.int .u8 p], rfl, rfl, fun i u hu => ?_⟩⟩⟩
  have hi : i = 0 := by rcases i with _ | i; rfl; simp at hu
  subst hi
  have hu : Value.int .u8 p = u := by simpa using hu
  subst hu
  have h2 : (⟨W.heap.size, 0, none⟩ : Addr).add (j * (Kd.int .u8).sz + 0) = ⟨W.heap.size, j, none⟩ := by
    show (⟨W.heap.size, 0, none⟩ : Addr).add (j * 1 + 0) = _
    rw [Nat.mul_one, Nat.add_zero]; exact add_plain _ _
  rw [h2, cell_of_row _ _ _ _ _ _ (heap_alloc_new W _)]
  simp [hp]
set_option maxRecDepth 100000 in
theorem Read_some {w : World} {L : DL} {D : PD} (h : IsDisk w L D) (i : Nat) (hi : i < D.n) (hd : D.down = false) (hb : D.bad i = false) (b : List Int) (hp : D.pe i = some b) :
    Calls Try.prog 12 #[.pointer (some ⟨L.p, 0, none⟩), .int .i64 (i : Int)] w (ReadsTo w (b, 0)) := by
  have c0 := h.c0
  have c1 := h.c1
  have c2 := h.c2
  have c4 := h.c4
  rw [hd] at c4
  have hn : D.n ≤ 4096 := h.good.most
  have l1 := h.look_bad i (by omega)
  rw [hb] at l1
  have l2 := h.look_pend i (by omega)
  rw [hp] at l2
  have ht : D.there (i : Int) = true := by rw [PD.there_iff]; omega
  simp only [Option.map_some, Option.getD_some, Option.isSome_some, secV] at l2
  have hbl : b.length = 64 := (h.good.fullp i b hp).2
  have HT := there_any h (i : Int)
  rw [ht] at HT
  have HT := Fact.mk HT
  have H := Lib.hid h
  generalize hcs : (b.map (Value.int .u8)).toArray = cs at *
  have hsz : cs.size = 64 := by rw [← hcs]; simp [hbl]
  have hst : ∀ (W : World) (Z : Array Value), Z.size = 64 → (storeCells ⟨W.heap.size, 0, none⟩ cs.toList).run Try.prog (W.alloc (.cells Z 65)) = .ok () (W.alloc (.cells cs 65)) :=
    fun W Z hZ => store_new W Z cs _ (by omega) (by rw [← hcs]; exact one_bytes b)
  have hcl : Fact (Calls Try.prog 30 #[.slice (some ⟨w.heap.size, 0, none⟩) 64 64] (w.alloc (.cells cs 65)) fun e w' => ∃ v0_ : Value, e = .returned (v0_) ∧ OwnB w' (w.alloc (.cells cs 65)).heap.size (fun _ => True) v0_ b ∧ Below (w.alloc (.cells cs 65)).heap.size (w.alloc (.cells cs 65)) w') := by
    have := Clone_bytes (some ⟨w.heap.size, 0, none⟩) 64 b (w.alloc (.cells cs 65)) (by omega) (by rw [← hcs]; exact reads_new w b _ (by omega))
    rw [hbl] at this
    exact ⟨this⟩
  clear h hd hb hp ht hbl hcs
  go_enter Try.func12, Try.ntmps12
  go_wp2_with (first | (go_at_call 28; refine HT.out.mono ?_; rintro e w' ⟨rfl, rfl⟩) | (go_at_call 30; refine hcl.out.mono ?_; rintro e w' ⟨v, rfl, ho, hbw⟩; have HO := Fact.mk ho; have HBW := Fact.mk hbw; clear ho hbw))
  go_ret2
  refine ⟨v, rfl, ?_, ?_⟩
  · exact Kd.R_mono (Kd.R_lower (Kd.R_bound HO.out) (by simp)) (fun k hk => by have := hk.2.1; simp at this; omega)
  · exact ((Below.refl _ _).alloc (Nat.le_refl _) _).trans (HBW.out.mono (by simp))
theorem size_sec : (Try.prog.info? 65).map (·.size) = some 64 := by kernel_rfl
theorem IsDisk.range {w : World} {L : DL} {D : PD} (h : IsDisk w L D) (i : Nat) (hi : i < D.n) : w.rangeAt L.bs (i * 64) ((D.st i).map (Value.int .u8)) := by
  obtain ⟨cs, h1, h2, h3⟩ := h.stands
  have hf := h.good.full i
  intro j v hv
  have hj : j < 64 := by
    have := (List.getElem?_eq_some_iff.1 hv).1
    rw [List.length_map, hf] at this; exact this
  rw [cell_of_row w L.bs _ _ _ _ h1, Nat.mul_comm i 64, h3 i j hi hj]
  rw [List.getElem?_map] at hv
  rw [List.getD_eq_getElem?_getD]
  cases hq : (D.st i)[j]? with
  | none => rw [hq] at hv; cases hv
  | some x => rw [hq] at hv; exact hv
theorem IsDisk.load_st {w : World} {L : DL} {D : PD} (h : IsDisk w L D) (i : Nat) (hi : i < D.n) : (Instr.loadAt 65 (.pointer (some ⟨L.bs, i * 64, none⟩))).run Try.prog w = .ok (.agg ((D.st i).map (Value.int .u8)).toArray) w :=
  run_loadAt_mid w L.bs (i * 64) _ _ _ (h.range i hi) Try.underlying65 rfl (by rw [size_sec, List.length_map, h.good.full i])
set_option maxRecDepth 100000 in
theorem Read_none {w : World} {L : DL} {D : PD} (h : IsDisk w L D) (i : Nat) (hi : i < D.n) (hd : D.down = false) (hb : D.bad i = false) (hp : D.pe i = none) :
    Calls Try.prog 12 #[.pointer (some ⟨L.p, 0, none⟩), .int .i64 (i : Int)] w (ReadsTo w (D.st i, 0)) := by
  have c0 := h.c0
  have c1 := h.c1
  have c2 := h.c2
  have c4 := h.c4
  rw [hd] at c4
  have hn : D.n ≤ 4096 := h.good.most
  have c0' : ∀ o, (w.alloc o).cell? ⟨L.p, 0, none⟩ = some (.slice (some ⟨L.bs, 0, none⟩) D.n D.n) := fun o => (h.alloc o).c0
  have HR : Fact (∀ o, (w.alloc o).rangeAt L.bs (i * 64) ((D.st i).map (Value.int .u8))) := ⟨fun o => (h.alloc o).range i hi⟩
  have l1 := h.look_bad i (by omega)
  rw [hb] at l1
  have l2 := h.look_pend i (by omega)
  rw [hp] at l2
  have ht : D.there (i : Int) = true := by rw [PD.there_iff]; omega
  simp only [Option.map_none, Option.getD_none, Option.isSome_none, zsec] at l2
  have hbl : (D.st i).length = 64 := h.good.full i
  have HT := Fact.mk (there_any h (i : Int))
  rw [ht] at HT
  have H := Lib.hid h
  generalize hst0 : D.st i = b at *
  have HCS0 := hst0
  generalize hcs : (b.map (Value.int .u8)).toArray = cs at *
  have HI : Fact ((Try.prog.info? 65).map (·.size) = some (b.map (Value.int .u8)).length) := ⟨by rw [size_sec, List.length_map, hbl]⟩
  have hsz : cs.size = 64 := by rw [← hcs]; simp [hbl]
  have hzz : zc.size = 64 := zc_size
  have hst : ∀ (W : World) (Z : Array Value), Z.size = 64 → (storeCells ⟨W.heap.size, 0, none⟩ cs.toList).run Try.prog (W.alloc (.cells Z 65)) = .ok () (W.alloc (.cells cs 65)) :=
    fun W Z hZ => store_new W Z cs _ (by omega) (by rw [← hcs]; exact one_bytes b)
  have hst2 : ∀ (W : World) (Z : Array Value), Z.size = 64 → (storeCells ⟨W.heap.size, 0, none⟩ zc.toList).run Try.prog (W.alloc (.cells Z 65)) = .ok () (W.alloc (.cells zc 65)) :=
    fun W Z hZ => store_new W Z zc _ (by rw [zc_size]; omega) (by intro v hv; rw [List.eq_of_mem_replicate (show v ∈ List.replicate 64 (Value.int .u8 0) from by simpa [zc] using hv)]; rfl)
  have hcl : Fact (Calls Try.prog 30 #[.slice (some ⟨w.heap.size, 0, none⟩) 64 64] (w.alloc (.cells cs 65)) fun e w' => ∃ v0_ : Value, e = .returned (v0_) ∧ OwnB w' (w.alloc (.cells cs 65)).heap.size (fun _ => True) v0_ b ∧ Below (w.alloc (.cells cs 65)).heap.size (w.alloc (.cells cs 65)) w') := by
    have := Clone_bytes (some ⟨w.heap.size, 0, none⟩) 64 b (w.alloc (.cells cs 65)) (by omega) (by rw [← hcs]; exact reads_new w b _ (by omega))
    rw [hbl] at this
    exact ⟨this⟩
  have HCS := Fact.mk hcs
  clear h hd hb hp ht hbl hcs c0 hst0 HCS0
  go_enter Try.func12, Try.ntmps12
  go_wp2_with (first | (refine wpList_load_mid rfl 65 (.tmp 41) rfl L.bs (i * 64) rfl (b.map (Value.int .u8)) _ (HR.out _) Try.underlying65 rfl HI.out ?_; rw [HCS.out]) | (go_at_call 28; refine HT.out.mono ?_; rintro e w' ⟨rfl, rfl⟩) | (go_at_call 30; refine hcl.out.mono ?_; rintro e w' ⟨v, rfl, ho, hbw⟩; have HO := Fact.mk ho; have HBW := Fact.mk hbw; clear ho hbw))
  go_ret2
  refine ⟨v, rfl, ?_, ?_⟩
  · exact Kd.R_mono (Kd.R_lower (Kd.R_bound HO.out) (by simp)) (fun k hk => by have := hk.2.1; simp at this; omega)
  · exact ((Below.refl _ _).alloc (Nat.le_refl _) _).trans (HBW.out.mono (by simp))
theorem reads_err (w : World) (n : Int) : ReadsTo w ([], n) (.returned (.tuple #[.slice none 0 0, .int .i64 n])) w := ⟨_, rfl, Kd.R_nil _ _ _ _ _, Below.refl _ _⟩
theorem Read_down {w : World} {L : DL} {D : PD} (h : IsDisk w L D) (i : Int) (hd : D.down = true) :
    Calls Try.prog 12 #[.pointer (some ⟨L.p, 0, none⟩), .int .i64 i] w (ReadsTo w ([], 40)) := by
  have c4 := h.c4
  rw [hd] at c4
  clear h hd
  go_enter Try.func12, Try.ntmps12
  go_wp2
  go_ret2
  exact reads_err w 40
theorem Read_range {w : World} {L : DL} {D : PD} (h : IsDisk w L D) (i : Int) (hd : D.down = false) (ht : D.there i = false) :
    Calls Try.prog 12 #[.pointer (some ⟨L.p, 0, none⟩), .int .i64 i] w (ReadsTo w ([], 11)) := by
  have c4 := h.c4
  rw [hd] at c4
  have HT := Fact.mk (there_any h i)
  rw [ht] at HT
  clear h hd ht
  go_enter Try.func12, Try.ntmps12
  go_wp2_with (go_at_call 28; refine HT.out.mono ?_; rintro e w' ⟨rfl, rfl⟩)
  go_ret2
  exact reads_err w 11
theorem Read_bad {w : World} {L : DL} {D : PD} (h : IsDisk w L D) (i : Nat) (hi : i < D.n) (hd : D.down = false) (hb : D.bad i = true) :
    Calls Try.prog 12 #[.pointer (some ⟨L.p, 0, none⟩), .int .i64 (i : Int)] w (ReadsTo w ([], 41)) := by
  have c2 := h.c2
  have c4 := h.c4
  rw [hd] at c4
  have hn : D.n ≤ 4096 := h.good.most
  have l1 := h.look_bad i (by omega)
  rw [hb] at l1
  have ht : D.there (i : Int) = true := by rw [PD.there_iff]; omega
  have HT := Fact.mk (there_any h (i : Int))
  rw [ht] at HT
  clear h hd ht hb
  go_enter Try.func12, Try.ntmps12
  go_wp2_with (go_at_call 28; refine HT.out.mono ?_; rintro e w' ⟨rfl, rfl⟩)
  go_ret2
  exact reads_err w 41
/-- '(*Disk).Read'. -/
theorem Read_any {w : World} {L : DL} {D : PD} (h : IsDisk w L D) (i : Int) :
    Calls Try.prog 12 #[.pointer (some ⟨L.p, 0, none⟩), .int .i64 i] w (ReadsTo w (D.read i)) := by
  unfold PD.read
  cases hd : D.down with
  | true => rw [if_pos rfl]; exact Read_down h i hd
  | false =>
    rw [if_neg Bool.false_ne_true]
    cases ht : D.there i with
    | false => rw [if_pos rfl]; exact Read_range h i hd ht
    | true =>
      rw [if_neg (by simp)]
      have hi := (PD.there_iff D i).1 ht
      obtain ⟨k, rfl⟩ := Int.eq_ofNat_of_zero_le hi.1
      have hk : k < D.n := by omega
      rw [Int.toNat_natCast]
      cases hb : D.bad k with
      | true => rw [if_pos rfl]; exact Read_bad h k hk hd hb
      | false =>
        rw [if_neg Bool.false_ne_true]
        unfold PD.now
        cases hp : D.pe k with
        | some b => exact Read_some h k hk hd hb b hp
        | none => exact Read_none h k hk hd hb hp
end Go.Proofs.Ytldefibkaoboeaa.Dk
