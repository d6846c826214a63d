import Derived.Test.YtllnleokjcimhaaDoorZEntrySameEnEntry
import Derived.Test.YtllnleokjcimhaaDoorZEntrySamePx0
import Derived.Test.YtllnleokjcimhaaDoorZEntrySamePx1
import Derived.Test.YtllnleokjcimhaaDoorZEntrySamePx2
import Derived.Test.YtllnleokjcimhaaDoorZEntrySamePx3
import Derived.Test.YtllnleokjcimhaaDoorZEntrySamePx4
import Derived.Test.YtllnleokjcimhaaDoorZEntrySamePx5
import Derived.Test.YtllnleokjcimhaaDoorZEntrySamePx6
import Derived.Test.YtllnleokjcimhaaDoorZEntrySamePx7
import Derived.Test.YtllnleokjcimhaaDoorZEntrySamePx8
import Derived.Test.YtllnleokjcimhaaDoorZEntrySamePx9
import Derived.Test.YtllnleokjcimhaaDoorZEntrySamePx10
import Derived.Test.YtllnleokjcimhaaDoorZEntrySamePx15
import Derived.Test.YtllnleokjcimhaaDoorZEntrySamePx16
import Derived.Test.YtllnleokjcimhaaDoorZEntrySamePx17
import Derived.Test.YtllnleokjcimhaaDoorZEntrySamePx18
import Derived.Test.YtllnleokjcimhaaDoorZEntrySamePx19
/-
What 'Decode' does.
-/
namespace Go.Proofs.YtllnleokjcimhaaDoor.En
open Go.RowKit Go.Maps Go.Proofs.YtllnleokjcimhaaDoorW.PrintWords Go.Proofs.YtllnleokjcimhaaDoorW.PrintLast Go.Proofs.YtllnleokjcimhaaDoorW.PrintMore Go.Proofs.YtllnleokjcimhaaDoor.P
set_option linter.unusedVariables false
set_option linter.unusedSimpArgs false
def zP : PE := ⟨⟨#[]⟩, ⟨#[]⟩, [], 0, 0, 0, [], [], 0⟩
/-- Fields as the print has them. -/
def flds (l : List (ByteArray × ByteArray)) : List S53 := l.map fun p => ⟨p.1, p.2⟩
/-- What Decode tells: an entry, its version, an error's number. -/
def decO (k : Nat) (l : List Int) : Option (PE × Int × Int) :=
  if l.length < 8 ∨ 4000 < l.length ∨ l.getD 0 0 ≠ 69 then some (zP, 0, 10)
  else if l.getD 1 0 < 1 ∨ 3 < l.getD 1 0 then some (zP, 0, 50)
  else if ((Rd.mk (l.drop 2) false).get 2).1 ≠ ((((Rd.mk (l.drop 2) false).get 2).2.get 4).2.b.length : Int) then some (zP, 0, 10)
  else (entry_sum.f k (((Rd.mk (l.drop 2) false).get 2).2.get 4).2.b).bind fun m =>
    if (((Rd.mk (l.drop 2) false).get 2).2.get 4).1 ≠ m then some (zP, 0, 44)
    else if ((((Rd.mk (l.drop 2) false).get 2).2.get 4).2.entry (l.getD 1 0)).2.bad = true ∨ 0 < ((((Rd.mk (l.drop 2) false).get 2).2.get 4).2.entry (l.getD 1 0)).2.b.length then some (zP, 0, 10)
    else
      let x := ((((Rd.mk (l.drop 2) false).get 2).2.get 4).2.entry (l.getD 1 0)).1
      (entry_Entry_Right.f k x.key x.second x.names x.asked x.came x.status (flds x.fields) x.body x.gen).bind fun ok => if ok = false then some (zP, 0, 10) else some (x, l.getD 1 0, 0)
section
variable {w w' w2 : World} {b : Nat} {v : Value}
theorem Row.step {α : Type} {d : Kd α} {xs : List α} (h : Row d b w v xs) (ho : Only (fun k => k < b) w w2) : Row d b w2 v xs := by
  obtain ⟨A, c, e, hc, hr⟩ := h
  exact ⟨A, c, e, hc, fun W hW => hr W (ho.trans hW)⟩
theorem Row.new {α : Type} {d : Kd α} {xs : List α} (h : Row d b w v xs) (hb : Below w.heap.size w w2) : Row d b w2 v xs := h.step (Only.of_below hb _)
theorem Row.lower {α : Type} {d : Kd α} {xs : List α} (h : Row d b w v xs) {b2 : Nat} (hb : b2 ≤ b) : Row d b2 w v xs := by
  obtain ⟨A, c, e, hc, hr⟩ := h
  exact ⟨A, c, e, hc, fun W hW => hr W (hW.mono fun k hk => Nat.lt_of_lt_of_le hk hb)⟩
theorem C_flds {A : Option Addr} {l : List (ByteArray × ByteArray)} (h : Kd.C fdK w A l.length l) : Kd.C k53 w A (flds l).length (flds l) := by
  have hlen : (flds l).length = l.length := by simp [flds]
  refine ⟨rfl, by rw [hlen]; exact h.2.1, fun hp => ?_⟩
  obtain ⟨ad, e, hc⟩ := h.2.2 (by omega)
  refine ⟨ad, e, fun j x hx => ?_⟩
  unfold flds at hx
  rw [List.getElem?_map] at hx
  cases hq : l[j]? with
  | none => rw [hq] at hx; cases hx
  | some p =>
    rw [hq] at hx
    obtain rfl := Option.some.inj hx
    exact hc j p hq
theorem Row.flds {l : List (ByteArray × ByteArray)} (h : Row fdK b w v l) : Row k53 b w v (flds l) := by
  obtain ⟨A, c, e, hc, hr⟩ := h
  have hlen : (En.flds l).length = l.length := by simp [En.flds]
  exact ⟨A, c, by rw [hlen]; exact e, by rw [hlen]; exact hc, fun W hW => C_flds (hr W hW)⟩
theorem results_dec {fn : Func} {p q u : Tmp} (h : fn.results = #[.cell p 27, .tmp q, .tmp u]) (tmps : Array Value) (w : World) (g : Nat) (cs : Array Value) (fr : Nat × Nat)
    (hp : tmps.getD p undef = .pointer (some ⟨g, 0, none⟩)) (hg : w.heap[g]? = some (.cells cs 27 fr)) (hs : cs.size = 9) :
    (results fn tmps).run Tryd.prog w = .ok (.tuple #[.agg cs, tmps.getD q undef, tmps.getD u undef]) w := by
  have hp' : tmps[p]?.getD undef = .pointer (some ⟨g, 0, none⟩) := by simpa using hp
  have hi : (Tryd.prog.info? 27).map (·.size) = some cs.size := by rw [hs]; kernel_rfl
  simp [results, h, hp', asAddr, run_loadVar_row w g 27 27 cs fr _ hg Tryd.underlying27 rfl hi]
end
theorem entry_any {w0 w : World} {p : Nat} {r : Rd} (h : IsRd w0 w p r) (v : Int) (hv : 1 ≤ v ∧ v ≤ 3) :
    Calls Tryd.prog 37 #[.pointer (some ⟨p, 0, none⟩), .int .i64 v] w fun e w' => ∃ vn vf vb, e = .returned (.agg #[.string (r.entry v).1.key, .string (r.entry v).1.second, vn, .int .i64 (r.entry v).1.asked, .int .i64 (r.entry v).1.came, .int .i64 (r.entry v).1.status, vf, vb, .int .i64 (r.entry v).1.gen]) ∧
      Row Kd.string w.heap.size w' vn (r.entry v).1.names ∧ Row fdK w.heap.size w' vf (r.entry v).1.fields ∧ Row (Kd.int .u8) w.heap.size w' vb (r.entry v).1.body ∧ IsRd w0 w' p (r.entry v).2 ∧ Turn p w w' := by
  rcases (by omega : v = 1 ∨ v = 2 ∨ v = 3) with rfl | rfl | rfl
  · exact entry_v1 h
  · exact entry_v2 h
  · exact entry_v3 h
/-- What Decode leaves. -/
def Decoded (w : World) (r : PE × Int × Int) (e : Ending) (w' : World) : Prop := ∃ vn vf vb, e = .returned (.tuple #[.agg #[.string r.1.key, .string r.1.second, vn, .int .i64 r.1.asked, .int .i64 r.1.came, .int .i64 r.1.status, vf, vb, .int .i64 r.1.gen], .int .i64 r.2.1, .int .i64 r.2.2]) ∧
  Row Kd.string w.heap.size w' vn r.1.names ∧ Row k53 w.heap.size w' vf (flds r.1.fields) ∧ Row (Kd.int .u8) w.heap.size w' vb r.1.body ∧ Below w.heap.size w w'
set_option maxHeartbeats 8000000 in
set_option maxRecDepth 100000 in
theorem Decode_any (k : Nat) {w : World} {A : Option Addr} {c : Nat} {l : List Int} {r : PE × Int × Int} (hr : ReadB w A l.length l) (hc : l.length ≤ c) (hrng : ∀ x ∈ l, 0 ≤ x ∧ x < 256) (h : decO k l = some r) :
    Calls Tryd.prog 19 #[.slice A l.length c] w (Decoded w r) := by
  unfold decO at h
  have HR := Fact.mk hr
  have HG := Fact.mk hrng
  have Q0 : Fact ((w.alloc (.cells #[(.string ⟨#[]⟩), (.string ⟨#[]⟩), (.slice none 0 0), (.int .i64 0), (.int .i64 0), (.int .i64 0), (.slice none 0 0), (.slice none 0 0), (.int .i64 0)] 27)).heap[w.heap.size]? = some (.cells #[(.string ⟨#[]⟩), (.string ⟨#[]⟩), (.slice none 0 0), (.int .i64 0), (.int .i64 0), (.int .i64 0), (.slice none 0 0), (.slice none 0 0), (.int .i64 0)] 27 (0, 0)) ∧ Below w.heap.size w (w.alloc (.cells #[(.string ⟨#[]⟩), (.string ⟨#[]⟩), (.slice none 0 0), (.int .i64 0), (.int .i64 0), (.int .i64 0), (.slice none 0 0), (.slice none 0 0), (.int .i64 0)] 27))) := ⟨heap_alloc_new w _, (Below.refl _ _).alloc (Nat.le_refl _) _⟩
  clear hr hrng
  go_enter Tryd.func19, Tryd.ntmps19
  by_cases c1 : l.length < 8 ∨ 4000 < l.length ∨ l.getD 0 0 ≠ 69
  · rw [if_pos c1] at h
    obtain rfl := Option.some.inj h
    clear h
    have hend : ∀ W, W.heap[w.heap.size]? = some (.cells #[(.string ⟨#[]⟩), (.string ⟨#[]⟩), (.slice none 0 0), (.int .i64 0), (.int .i64 0), (.int .i64 0), (.slice none 0 0), (.slice none 0 0), (.int .i64 0)] 27 (0, 0)) → Below w.heap.size w W → Decoded w (zP, 0, 10) (.returned (.tuple #[.agg #[(.string ⟨#[]⟩), (.string ⟨#[]⟩), (.slice none 0 0), (.int .i64 0), (.int .i64 0), (.int .i64 0), (.slice none 0 0), (.slice none 0 0), (.int .i64 0)], .int .i64 0, .int .i64 10])) W := fun W _ hb => ⟨_, _, _, rfl, Row.nil _ _ _, Row.nil _ _ _, Row.nil _ _ _, hb⟩
    have HE := Fact.mk hend
    clear hend
    by_cases d1 : l.length < 8
    · have e1 : (l.length : Int) < 8 := by omega
      clear c1
      generalize l.length = n at *
      go_wp2_with fail
      refine bodyPost_ret (results_dec rfl _ _ w.heap.size #[(.string ⟨#[]⟩), (.string ⟨#[]⟩), (.slice none 0 0), (.int .i64 0), (.int .i64 0), (.int .i64 0), (.slice none 0 0), (.slice none 0 0), (.int .i64 0)] (0, 0) rfl Q0.out.1 rfl) rfl ?_
      exact HE.out _ Q0.out.1 Q0.out.2
    · have e1 : ¬ (l.length : Int) < 8 := by omega
      by_cases d2 : 4000 < l.length
      · have e2 : (4000 : Int) < (l.length : Int) := by omega
        clear c1
        generalize l.length = n at *
        go_wp2_with fail
        refine bodyPost_ret (results_dec rfl _ _ w.heap.size #[(.string ⟨#[]⟩), (.string ⟨#[]⟩), (.slice none 0 0), (.int .i64 0), (.int .i64 0), (.int .i64 0), (.slice none 0 0), (.slice none 0 0), (.int .i64 0)] (0, 0) rfl Q0.out.1 rfl) rfl ?_
        exact HE.out _ Q0.out.1 Q0.out.2
      · have e2 : ¬ (4000 : Int) < (l.length : Int) := by omega
        have d3 : l.getD 0 0 ≠ 69 := by rcases c1 with h | h | h; exact absurd h d1; exact absurd h d2; exact h
        obtain ⟨ad, rfl, hc0⟩ := byte_cell (Kd.C_below HR.out Q0.out.2) (j := 0) (by omega)
        rw [show ad.add 0 = ad from by simp [Addr.add]] at hc0
        clear c1
        generalize l.getD 0 0 = y at *
        generalize l.length = n at *
        go_wp2_with fail
        refine bodyPost_ret (results_dec rfl _ _ w.heap.size #[(.string ⟨#[]⟩), (.string ⟨#[]⟩), (.slice none 0 0), (.int .i64 0), (.int .i64 0), (.int .i64 0), (.slice none 0 0), (.slice none 0 0), (.int .i64 0)] (0, 0) rfl Q0.out.1 rfl) rfl ?_
        exact HE.out _ Q0.out.1 Q0.out.2
  · rw [if_neg c1] at h
    have d1 : 8 ≤ l.length := by omega
    have e1 : ¬ (l.length : Int) < 8 := by omega
    have e2 : ¬ (4000 : Int) < (l.length : Int) := by omega
    have hy0 : l.getD 0 0 = 69 := Classical.not_not.1 (fun h => c1 (.inr (.inr h)))
    obtain ⟨ad, rfl, hc0⟩ := byte_cell (Kd.C_below HR.out Q0.out.2) (j := 0) (by omega)
    obtain ⟨ad2, ea, hc1⟩ := byte_cell (Kd.C_below HR.out Q0.out.2) (j := 1) (by omega)
    injection ea with ea
    subst ea
    rw [show ad.add 0 = ad from by simp [Addr.add], hy0] at hc0
    rw [show ad.add 1 = ⟨ad.block, ad.off + 1, none⟩ from by unfold Addr.add; rw [if_neg (by omega)]] at hc1
    have HRd : Fact (ReadB w (some ⟨ad.block, ad.off + 2, none⟩) (l.length - 2) (l.drop 2)) := ⟨by
      have := Kd.C_drop (m := 2) (c := c) HR.out (by omega) hc
      rw [show (l.drop 2).length = l.length - 2 from List.length_drop, if_neg (by omega)] at this
      have e : (some ad).map (·.add (2 * (Kd.int .u8).sz)) = some (⟨ad.block, ad.off + 2, none⟩ : Addr) := by
        show some (ad.add 2) = _
        unfold Addr.add; rw [if_neg (by omega)]
      rw [e] at this
      exact this⟩
    have HRr : Fact (∀ x ∈ l.drop 2, 0 ≤ x ∧ x < 256) := ⟨fun x hx => HG.out x (List.mem_of_mem_drop hx)⟩
    have HV : Fact (0 ≤ l.getD 1 0 ∧ l.getD 1 0 < 256) := ⟨HG.out _ (by rw [List.getD_eq_getElem?_getD, List.getElem?_eq_getElem (by omega)]; exact List.getElem_mem (by omega))⟩
    have hdl : (l.drop 2).length = l.length - 2 := List.length_drop
    have hw : wrap64 (l.getD 1 0) = l.getD 1 0 := by have := HV.out; unfold wrap64; omega
    clear c1 hy0 HR HG
    generalize l.getD 1 0 = v at *
    generalize hrest : l.drop 2 = rest at *
    clear hrest
    generalize hn : l.length = n at *
    clear hn
    have R0 : Fact (IsRd w ((w.alloc (.cells #[(.string ⟨#[]⟩), (.string ⟨#[]⟩), (.slice none 0 0), (.int .i64 0), (.int .i64 0), (.int .i64 0), (.slice none 0 0), (.slice none 0 0), (.int .i64 0)] 27)).alloc (.cells #[.slice (some ⟨ad.block, ad.off + 2, none⟩) (n - 2) (c - 2), .bool false] 64)) (w.heap.size + 1) ⟨rest, false⟩ ∧ ((w.alloc (.cells #[(.string ⟨#[]⟩), (.string ⟨#[]⟩), (.slice none 0 0), (.int .i64 0), (.int .i64 0), (.int .i64 0), (.slice none 0 0), (.slice none 0 0), (.int .i64 0)] 27)).alloc (.cells #[.slice (some ⟨ad.block, ad.off + 2, none⟩) (n - 2) (c - 2), .bool false] 64)).heap[w.heap.size]? = some (.cells #[(.string ⟨#[]⟩), (.string ⟨#[]⟩), (.slice none 0 0), (.int .i64 0), (.int .i64 0), (.int .i64 0), (.slice none 0 0), (.slice none 0 0), (.int .i64 0)] 27 (0, 0))) :=
      ⟨⟨⟨_, c - 2, by rw [hdl]; exact heap_alloc2_new w _ _, by rw [hdl]; omega, by rw [hdl]; exact HRd.out⟩, HRr.out, ((Below.refl _ _).alloc (Nat.le_refl _) _).alloc (by simp) _, by omega⟩, (Below.heap_alloc _ _ _ (by simp)).trans (heap_alloc_new w _)⟩
    clear HRd HRr Q0
    go_wp2_with fail
    clear hc0 hc1
    generalize (w.alloc (.cells #[(.string ⟨#[]⟩), (.string ⟨#[]⟩), (.slice none 0 0), (.int .i64 0), (.int .i64 0), (.int .i64 0), (.slice none 0 0), (.slice none 0 0), (.int .i64 0)] 27)).alloc (.cells #[.slice (some ⟨ad.block, ad.off + 2, none⟩) (n - 2) (c - 2), .bool false] 64) = wa at *
    refine (get_any R0.out.1 2 (by omega)).mono ?_
    rintro e w1 ⟨rfl, -, -, g1, t1⟩
    have R1 : Fact (IsRd w w1 (w.heap.size + 1) ((Rd.mk rest false).get 2).2 ∧ w1.heap[w.heap.size]? = some (.cells #[(.string ⟨#[]⟩), (.string ⟨#[]⟩), (.slice none 0 0), (.int .i64 0), (.int .i64 0), (.int .i64 0), (.slice none 0 0), (.slice none 0 0), (.int .i64 0)] 27 (0, 0))) := ⟨g1, (t1.block _ (Array.getElem?_eq_some_iff.1 R0.out.2).1 (by omega)).trans R0.out.2⟩
    clear g1 t1 R0
    clear wa
    go_wp2_with fail
    refine (get_any R1.out.1 4 (by omega)).mono ?_
    rintro e w2 ⟨rfl, -, -, g2, t2⟩
    have R2 : Fact (IsRd w w2 (w.heap.size + 1) (((Rd.mk rest false).get 2).2.get 4).2 ∧ w2.heap[w.heap.size]? = some (.cells #[(.string ⟨#[]⟩), (.string ⟨#[]⟩), (.slice none 0 0), (.int .i64 0), (.int .i64 0), (.int .i64 0), (.slice none 0 0), (.slice none 0 0), (.int .i64 0)] 27 (0, 0))) := ⟨g2, (t2.block _ (Array.getElem?_eq_some_iff.1 R1.out.2).1 (by omega)).trans R1.out.2⟩
    clear g2 t2 R1
    clear w1
    generalize hsz : ((Rd.mk rest false).get 2).1 = size at *
    generalize hck : (((Rd.mk rest false).get 2).2.get 4).1 = check at *
    generalize hrd : (((Rd.mk rest false).get 2).2.get 4).2 = rd at *
    clear hsz hck hrd
    obtain ⟨A2, cc, hrow, hcc, hread⟩ := R2.out.1.at_
    have r0 : w2.cell? ⟨w.heap.size + 1, 0, none⟩ = some (.slice A2 rd.b.length cc) := by rw [cell_of_row _ _ _ _ _ _ hrow]; rfl
    have HR2 : Fact (ReadB w2 A2 rd.b.length rd.b ∧ rd.b.length ≤ cc) := ⟨read_below hread R2.out.1.bl, hcc⟩
    clear hrow hread hcc
    have hend : ∀ n W, W.heap[w.heap.size]? = some (.cells #[(.string ⟨#[]⟩), (.string ⟨#[]⟩), (.slice none 0 0), (.int .i64 0), (.int .i64 0), (.int .i64 0), (.slice none 0 0), (.slice none 0 0), (.int .i64 0)] 27 (0, 0)) → Below w.heap.size w W → Decoded w (zP, 0, n) (.returned (.tuple #[.agg #[(.string ⟨#[]⟩), (.string ⟨#[]⟩), (.slice none 0 0), (.int .i64 0), (.int .i64 0), (.int .i64 0), (.slice none 0 0), (.slice none 0 0), (.int .i64 0)], .int .i64 0, .int .i64 n])) W := fun n W _ hb => ⟨_, _, _, rfl, Row.nil _ _ _, Row.nil _ _ _, Row.nil _ _ _, hb⟩
    have HE := Fact.mk hend
    clear hend
    have hv := HV.out
    by_cases c2 : v < 1 ∨ 3 < v
    · rw [if_pos c2] at h
      obtain rfl := Option.some.inj h
      clear h
      have z0 : w2.cell? ⟨w.heap.size, 0, none⟩ = some (.string ⟨#[]⟩) := by rw [cell_of_row _ _ _ _ _ _ R2.out.2]; rfl
      have z1 : w2.cell? ⟨w.heap.size, 1, none⟩ = some (.string ⟨#[]⟩) := by rw [cell_of_row _ _ _ _ _ _ R2.out.2]; rfl
      have z2 : w2.cell? ⟨w.heap.size, 2, none⟩ = some (.slice none 0 0) := by rw [cell_of_row _ _ _ _ _ _ R2.out.2]; rfl
      have z3 : w2.cell? ⟨w.heap.size, 3, none⟩ = some (.int .i64 0) := by rw [cell_of_row _ _ _ _ _ _ R2.out.2]; rfl
      have z4 : w2.cell? ⟨w.heap.size, 4, none⟩ = some (.int .i64 0) := by rw [cell_of_row _ _ _ _ _ _ R2.out.2]; rfl
      have z5 : w2.cell? ⟨w.heap.size, 5, none⟩ = some (.int .i64 0) := by rw [cell_of_row _ _ _ _ _ _ R2.out.2]; rfl
      have z6 : w2.cell? ⟨w.heap.size, 6, none⟩ = some (.slice none 0 0) := by rw [cell_of_row _ _ _ _ _ _ R2.out.2]; rfl
      have z7 : w2.cell? ⟨w.heap.size, 7, none⟩ = some (.slice none 0 0) := by rw [cell_of_row _ _ _ _ _ _ R2.out.2]; rfl
      have z8 : w2.cell? ⟨w.heap.size, 8, none⟩ = some (.int .i64 0) := by rw [cell_of_row _ _ _ _ _ _ R2.out.2]; rfl
      have fz : ∀ i, w2.frozen? ⟨w.heap.size, i, none⟩ = false := fun i => frozen_of_row _ _ _ _ _ R2.out.2
      rcases c2 with c2 | c2
      · go_wp2_with fail
        obtain ⟨hW, hO⟩ := put9 w2 w.heap.size (.string ⟨#[]⟩) (.string ⟨#[]⟩) (.slice none 0 0) (.int .i64 0) (.int .i64 0) (.int .i64 0) (.slice none 0 0) (.slice none 0 0) (.int .i64 0) R2.out.2
        refine bodyPost_ret (results_dec rfl _ _ w.heap.size #[(.string ⟨#[]⟩), (.string ⟨#[]⟩), (.slice none 0 0), (.int .i64 0), (.int .i64 0), (.int .i64 0), (.slice none 0 0), (.slice none 0 0), (.int .i64 0)] (0, 0) rfl hW rfl) rfl ?_
        exact HE.out 50 _ hW (next_below R2.out.1.bl hO (fun k hk => by subst hk; exact Nat.le_refl _))
      · have c3 : ¬ v < 1 := by omega
        go_wp2_with fail
        obtain ⟨hW, hO⟩ := put9 w2 w.heap.size (.string ⟨#[]⟩) (.string ⟨#[]⟩) (.slice none 0 0) (.int .i64 0) (.int .i64 0) (.int .i64 0) (.slice none 0 0) (.slice none 0 0) (.int .i64 0) R2.out.2
        refine bodyPost_ret (results_dec rfl _ _ w.heap.size #[(.string ⟨#[]⟩), (.string ⟨#[]⟩), (.slice none 0 0), (.int .i64 0), (.int .i64 0), (.int .i64 0), (.slice none 0 0), (.slice none 0 0), (.int .i64 0)] (0, 0) rfl hW rfl) rfl ?_
        exact HE.out 50 _ hW (next_below R2.out.1.bl hO (fun k hk => by subst hk; exact Nat.le_refl _))
    · rw [if_neg c2] at h
      have v1 : ¬ v < 1 := by omega
      have v3 : ¬ 3 < v := by omega
      by_cases c3 : size ≠ (rd.b.length : Int)
      · rw [if_pos c3] at h
        obtain rfl := Option.some.inj h
        clear h
        have z0 : w2.cell? ⟨w.heap.size, 0, none⟩ = some (.string ⟨#[]⟩) := by rw [cell_of_row _ _ _ _ _ _ R2.out.2]; rfl
        have z1 : w2.cell? ⟨w.heap.size, 1, none⟩ = some (.string ⟨#[]⟩) := by rw [cell_of_row _ _ _ _ _ _ R2.out.2]; rfl
        have z2 : w2.cell? ⟨w.heap.size, 2, none⟩ = some (.slice none 0 0) := by rw [cell_of_row _ _ _ _ _ _ R2.out.2]; rfl
        have z3 : w2.cell? ⟨w.heap.size, 3, none⟩ = some (.int .i64 0) := by rw [cell_of_row _ _ _ _ _ _ R2.out.2]; rfl
        have z4 : w2.cell? ⟨w.heap.size, 4, none⟩ = some (.int .i64 0) := by rw [cell_of_row _ _ _ _ _ _ R2.out.2]; rfl
        have z5 : w2.cell? ⟨w.heap.size, 5, none⟩ = some (.int .i64 0) := by rw [cell_of_row _ _ _ _ _ _ R2.out.2]; rfl
        have z6 : w2.cell? ⟨w.heap.size, 6, none⟩ = some (.slice none 0 0) := by rw [cell_of_row _ _ _ _ _ _ R2.out.2]; rfl
        have z7 : w2.cell? ⟨w.heap.size, 7, none⟩ = some (.slice none 0 0) := by rw [cell_of_row _ _ _ _ _ _ R2.out.2]; rfl
        have z8 : w2.cell? ⟨w.heap.size, 8, none⟩ = some (.int .i64 0) := by rw [cell_of_row _ _ _ _ _ _ R2.out.2]; rfl
        have fz : ∀ i, w2.frozen? ⟨w.heap.size, i, none⟩ = false := fun i => frozen_of_row _ _ _ _ _ R2.out.2
        go_wp2_with fail
        obtain ⟨hW, hO⟩ := put9 w2 w.heap.size (.string ⟨#[]⟩) (.string ⟨#[]⟩) (.slice none 0 0) (.int .i64 0) (.int .i64 0) (.int .i64 0) (.slice none 0 0) (.slice none 0 0) (.int .i64 0) R2.out.2
        refine bodyPost_ret (results_dec rfl _ _ w.heap.size #[(.string ⟨#[]⟩), (.string ⟨#[]⟩), (.slice none 0 0), (.int .i64 0), (.int .i64 0), (.int .i64 0), (.slice none 0 0), (.slice none 0 0), (.int .i64 0)] (0, 0) rfl hW rfl) rfl ?_
        exact HE.out 10 _ hW (next_below R2.out.1.bl hO (fun k hk => by subst hk; exact Nat.le_refl _))
      · rw [if_neg c3] at h
        have c3 := Classical.not_not.1 c3
        obtain ⟨m, hm, h⟩ := Option.bind_eq_some_iff.1 h
        have HM := Fact.mk h
        clear h
        go_wp2_with fail
        refine (entry_sum.calls k A2 cc rd.b m w2 HR2.out.1 HR2.out.2 hm).mono ?_
        rintro e w3 ⟨rfl, hd⟩
        have R3 : Fact (IsRd w w3 (w.heap.size + 1) rd ∧ w3.heap[w.heap.size]? = some (.cells #[(.string ⟨#[]⟩), (.string ⟨#[]⟩), (.slice none 0 0), (.int .i64 0), (.int .i64 0), (.int .i64 0), (.slice none 0 0), (.slice none 0 0), (.int .i64 0)] 27 (0, 0))) := ⟨R2.out.1.new hd.below, (hd.below.block _ (Array.getElem?_eq_some_iff.1 R2.out.2).1).trans R2.out.2⟩
        clear hd R2 HR2 r0 hm
        clear w2
        by_cases c4 : check ≠ m
        · have h := HM.out
          rw [if_pos c4] at h
          obtain rfl := Option.some.inj h
          clear h HM
          have z0 : w3.cell? ⟨w.heap.size, 0, none⟩ = some (.string ⟨#[]⟩) := by rw [cell_of_row _ _ _ _ _ _ R3.out.2]; rfl
          have z1 : w3.cell? ⟨w.heap.size, 1, none⟩ = some (.string ⟨#[]⟩) := by rw [cell_of_row _ _ _ _ _ _ R3.out.2]; rfl
          have z2 : w3.cell? ⟨w.heap.size, 2, none⟩ = some (.slice none 0 0) := by rw [cell_of_row _ _ _ _ _ _ R3.out.2]; rfl
          have z3 : w3.cell? ⟨w.heap.size, 3, none⟩ = some (.int .i64 0) := by rw [cell_of_row _ _ _ _ _ _ R3.out.2]; rfl
          have z4 : w3.cell? ⟨w.heap.size, 4, none⟩ = some (.int .i64 0) := by rw [cell_of_row _ _ _ _ _ _ R3.out.2]; rfl
          have z5 : w3.cell? ⟨w.heap.size, 5, none⟩ = some (.int .i64 0) := by rw [cell_of_row _ _ _ _ _ _ R3.out.2]; rfl
          have z6 : w3.cell? ⟨w.heap.size, 6, none⟩ = some (.slice none 0 0) := by rw [cell_of_row _ _ _ _ _ _ R3.out.2]; rfl
          have z7 : w3.cell? ⟨w.heap.size, 7, none⟩ = some (.slice none 0 0) := by rw [cell_of_row _ _ _ _ _ _ R3.out.2]; rfl
          have z8 : w3.cell? ⟨w.heap.size, 8, none⟩ = some (.int .i64 0) := by rw [cell_of_row _ _ _ _ _ _ R3.out.2]; rfl
          have fz : ∀ i, w3.frozen? ⟨w.heap.size, i, none⟩ = false := fun i => frozen_of_row _ _ _ _ _ R3.out.2
          go_wp2_with fail
          obtain ⟨hW, hO⟩ := put9 w3 w.heap.size (.string ⟨#[]⟩) (.string ⟨#[]⟩) (.slice none 0 0) (.int .i64 0) (.int .i64 0) (.int .i64 0) (.slice none 0 0) (.slice none 0 0) (.int .i64 0) R3.out.2
          refine bodyPost_ret (results_dec rfl _ _ w.heap.size #[(.string ⟨#[]⟩), (.string ⟨#[]⟩), (.slice none 0 0), (.int .i64 0), (.int .i64 0), (.int .i64 0), (.slice none 0 0), (.slice none 0 0), (.int .i64 0)] (0, 0) rfl hW rfl) rfl ?_
          exact HE.out 44 _ hW (next_below R3.out.1.bl hO (fun k hk => by subst hk; exact Nat.le_refl _))
        · have h := HM.out
          rw [if_neg c4] at h
          have c4 := Classical.not_not.1 c4
          have HM := Fact.mk h
          clear h
          go_wp2_with fail
          refine (entry_any R3.out.1 v (by omega)).mono ?_
          rintro e w4 ⟨vn, vf, vb, rfl, rn, rf, rb, g4, t4⟩
          have hsz4 := t4.size
          have R4 : Fact (IsRd w w4 (w.heap.size + 1) (rd.entry v).2 ∧ w4.heap[w.heap.size]? = some (.cells #[(.string ⟨#[]⟩), (.string ⟨#[]⟩), (.slice none 0 0), (.int .i64 0), (.int .i64 0), (.int .i64 0), (.slice none 0 0), (.slice none 0 0), (.int .i64 0)] 27 (0, 0))) := ⟨g4, (t4.block _ (Array.getElem?_eq_some_iff.1 R3.out.2).1 (by omega)).trans R3.out.2⟩
          have hb3 : w.heap.size + 1 ≤ w3.heap.size := Nat.le_of_lt R3.out.1.lt
          obtain ⟨An, cn, rfl, hcn, hrn⟩ := rn.lower hb3
          obtain ⟨Af, cf, rfl, hcf, hrf⟩ := (rf.lower hb3).flds
          obtain ⟨Ab, cb, rfl, hcb, hrb⟩ := rb.lower hb3
          have RN := Fact.mk hrn
          have RF := Fact.mk hrf
          have RB := Fact.mk hrb
          clear rn rf rb g4 t4 hsz4 R3 hb3 hrn hrf hrb
          clear w3
          generalize hx : (rd.entry v).1 = x at *
          generalize hq : (rd.entry v).2 = rd2 at *
          clear hx hq
          have R5 : Fact (IsRd w (w4.alloc (.cells #[.string x.key, .string x.second, .slice An x.names.length cn, .int .i64 x.asked, .int .i64 x.came, .int .i64 x.status, .slice Af (flds x.fields).length cf, .slice Ab x.body.length cb, .int .i64 x.gen] 27)) (w.heap.size + 1) rd2 ∧ (w4.alloc (.cells #[.string x.key, .string x.second, .slice An x.names.length cn, .int .i64 x.asked, .int .i64 x.came, .int .i64 x.status, .slice Af (flds x.fields).length cf, .slice Ab x.body.length cb, .int .i64 x.gen] 27)).heap[w.heap.size]? = some (.cells #[(.string ⟨#[]⟩), (.string ⟨#[]⟩), (.slice none 0 0), (.int .i64 0), (.int .i64 0), (.int .i64 0), (.slice none 0 0), (.slice none 0 0), (.int .i64 0)] 27 (0, 0)) ∧ (w4.alloc (.cells #[.string x.key, .string x.second, .slice An x.names.length cn, .int .i64 x.asked, .int .i64 x.came, .int .i64 x.status, .slice Af (flds x.fields).length cf, .slice Ab x.body.length cb, .int .i64 x.gen] 27)).heap[w4.heap.size]? = some (.cells #[.string x.key, .string x.second, .slice An x.names.length cn, .int .i64 x.asked, .int .i64 x.came, .int .i64 x.status, .slice Af (flds x.fields).length cf, .slice Ab x.body.length cb, .int .i64 x.gen] 27 (0, 0)) ∧ Only (fun k => k < w.heap.size + 1) w4 (w4.alloc (.cells #[.string x.key, .string x.second, .slice An x.names.length cn, .int .i64 x.asked, .int .i64 x.came, .int .i64 x.status, .slice Af (flds x.fields).length cf, .slice Ab x.body.length cb, .int .i64 x.gen] 27))) :=
            ⟨R4.out.1.new ((Below.refl _ _).alloc (Nat.le_refl _) _), (Below.heap_alloc _ _ _ (Array.getElem?_eq_some_iff.1 R4.out.2).1).trans R4.out.2, heap_alloc_new w4 _, Only.alloc _ _ _⟩
          have HL : Fact (w.heap.size + 1 < w4.heap.size) := ⟨R4.out.1.lt⟩
          clear R4
          obtain ⟨A5, cc5, hrow, -, -⟩ := R5.out.1.at_
          have r0 : (w4.alloc (.cells #[.string x.key, .string x.second, .slice An x.names.length cn, .int .i64 x.asked, .int .i64 x.came, .int .i64 x.status, .slice Af (flds x.fields).length cf, .slice Ab x.body.length cb, .int .i64 x.gen] 27)).cell? ⟨w.heap.size + 1, 0, none⟩ = some (.slice A5 rd2.b.length cc5) := by rw [cell_of_row _ _ _ _ _ _ hrow]; rfl
          have r1 : (w4.alloc (.cells #[.string x.key, .string x.second, .slice An x.names.length cn, .int .i64 x.asked, .int .i64 x.came, .int .i64 x.status, .slice Af (flds x.fields).length cf, .slice Ab x.body.length cb, .int .i64 x.gen] 27)).cell? ⟨w.heap.size + 1, 1, none⟩ = some (.bool rd2.bad) := by rw [cell_of_row _ _ _ _ _ _ hrow]; rfl
          clear hrow
          by_cases c5 : rd2.bad = true ∨ 0 < rd2.b.length
          · have h := HM.out
            rw [if_pos c5] at h
            obtain rfl := Option.some.inj h
            clear h HM
            have z0 : (w4.alloc (.cells #[.string x.key, .string x.second, .slice An x.names.length cn, .int .i64 x.asked, .int .i64 x.came, .int .i64 x.status, .slice Af (flds x.fields).length cf, .slice Ab x.body.length cb, .int .i64 x.gen] 27)).cell? ⟨w.heap.size, 0, none⟩ = some (.string ⟨#[]⟩) := by rw [cell_of_row _ _ _ _ _ _ R5.out.2.1]; rfl
            have z1 : (w4.alloc (.cells #[.string x.key, .string x.second, .slice An x.names.length cn, .int .i64 x.asked, .int .i64 x.came, .int .i64 x.status, .slice Af (flds x.fields).length cf, .slice Ab x.body.length cb, .int .i64 x.gen] 27)).cell? ⟨w.heap.size, 1, none⟩ = some (.string ⟨#[]⟩) := by rw [cell_of_row _ _ _ _ _ _ R5.out.2.1]; rfl
            have z2 : (w4.alloc (.cells #[.string x.key, .string x.second, .slice An x.names.length cn, .int .i64 x.asked, .int .i64 x.came, .int .i64 x.status, .slice Af (flds x.fields).length cf, .slice Ab x.body.length cb, .int .i64 x.gen] 27)).cell? ⟨w.heap.size, 2, none⟩ = some (.slice none 0 0) := by rw [cell_of_row _ _ _ _ _ _ R5.out.2.1]; rfl
            have z3 : (w4.alloc (.cells #[.string x.key, .string x.second, .slice An x.names.length cn, .int .i64 x.asked, .int .i64 x.came, .int .i64 x.status, .slice Af (flds x.fields).length cf, .slice Ab x.body.length cb, .int .i64 x.gen] 27)).cell? ⟨w.heap.size, 3, none⟩ = some (.int .i64 0) := by rw [cell_of_row _ _ _ _ _ _ R5.out.2.1]; rfl
            have z4 : (w4.alloc (.cells #[.string x.key, .string x.second, .slice An x.names.length cn, .int .i64 x.asked, .int .i64 x.came, .int .i64 x.status, .slice Af (flds x.fields).length cf, .slice Ab x.body.length cb, .int .i64 x.gen] 27)).cell? ⟨w.heap.size, 4, none⟩ = some (.int .i64 0) := by rw [cell_of_row _ _ _ _ _ _ R5.out.2.1]; rfl
            have z5 : (w4.alloc (.cells #[.string x.key, .string x.second, .slice An x.names.length cn, .int .i64 x.asked, .int .i64 x.came, .int .i64 x.status, .slice Af (flds x.fields).length cf, .slice Ab x.body.length cb, .int .i64 x.gen] 27)).cell? ⟨w.heap.size, 5, none⟩ = some (.int .i64 0) := by rw [cell_of_row _ _ _ _ _ _ R5.out.2.1]; rfl
            have z6 : (w4.alloc (.cells #[.string x.key, .string x.second, .slice An x.names.length cn, .int .i64 x.asked, .int .i64 x.came, .int .i64 x.status, .slice Af (flds x.fields).length cf, .slice Ab x.body.length cb, .int .i64 x.gen] 27)).cell? ⟨w.heap.size, 6, none⟩ = some (.slice none 0 0) := by rw [cell_of_row _ _ _ _ _ _ R5.out.2.1]; rfl
            have z7 : (w4.alloc (.cells #[.string x.key, .string x.second, .slice An x.names.length cn, .int .i64 x.asked, .int .i64 x.came, .int .i64 x.status, .slice Af (flds x.fields).length cf, .slice Ab x.body.length cb, .int .i64 x.gen] 27)).cell? ⟨w.heap.size, 7, none⟩ = some (.slice none 0 0) := by rw [cell_of_row _ _ _ _ _ _ R5.out.2.1]; rfl
            have z8 : (w4.alloc (.cells #[.string x.key, .string x.second, .slice An x.names.length cn, .int .i64 x.asked, .int .i64 x.came, .int .i64 x.status, .slice Af (flds x.fields).length cf, .slice Ab x.body.length cb, .int .i64 x.gen] 27)).cell? ⟨w.heap.size, 8, none⟩ = some (.int .i64 0) := by rw [cell_of_row _ _ _ _ _ _ R5.out.2.1]; rfl
            have fz : ∀ i, (w4.alloc (.cells #[.string x.key, .string x.second, .slice An x.names.length cn, .int .i64 x.asked, .int .i64 x.came, .int .i64 x.status, .slice Af (flds x.fields).length cf, .slice Ab x.body.length cb, .int .i64 x.gen] 27)).frozen? ⟨w.heap.size, i, none⟩ = false := fun i => frozen_of_row _ _ _ _ _ R5.out.2.1
            cases hbad : rd2.bad with
            | true =>
              rw [hbad] at r1
              clear c5 hbad
              go_wp2_with fail
              obtain ⟨hW, hO⟩ := put9 (w4.alloc (.cells #[.string x.key, .string x.second, .slice An x.names.length cn, .int .i64 x.asked, .int .i64 x.came, .int .i64 x.status, .slice Af (flds x.fields).length cf, .slice Ab x.body.length cb, .int .i64 x.gen] 27)) w.heap.size (.string ⟨#[]⟩) (.string ⟨#[]⟩) (.slice none 0 0) (.int .i64 0) (.int .i64 0) (.int .i64 0) (.slice none 0 0) (.slice none 0 0) (.int .i64 0) R5.out.2.1
              refine bodyPost_ret (results_dec rfl _ _ w.heap.size #[(.string ⟨#[]⟩), (.string ⟨#[]⟩), (.slice none 0 0), (.int .i64 0), (.int .i64 0), (.int .i64 0), (.slice none 0 0), (.slice none 0 0), (.int .i64 0)] (0, 0) rfl hW rfl) rfl ?_
              exact HE.out 10 _ hW (next_below R5.out.1.bl hO (fun k hk => by subst hk; exact Nat.le_refl _))
            | false =>
              rw [hbad] at r1
              have hpos : (0 : Int) < (rd2.b.length : Int) := by rcases c5 with h | h; (rw [hbad] at h; cases h); omega
              clear c5 hbad
              generalize rd2.b.length = nb at *
              go_wp2_with fail
              obtain ⟨hW, hO⟩ := put9 (w4.alloc (.cells #[.string x.key, .string x.second, .slice An x.names.length cn, .int .i64 x.asked, .int .i64 x.came, .int .i64 x.status, .slice Af (flds x.fields).length cf, .slice Ab x.body.length cb, .int .i64 x.gen] 27)) w.heap.size (.string ⟨#[]⟩) (.string ⟨#[]⟩) (.slice none 0 0) (.int .i64 0) (.int .i64 0) (.int .i64 0) (.slice none 0 0) (.slice none 0 0) (.int .i64 0) R5.out.2.1
              refine bodyPost_ret (results_dec rfl _ _ w.heap.size #[(.string ⟨#[]⟩), (.string ⟨#[]⟩), (.slice none 0 0), (.int .i64 0), (.int .i64 0), (.int .i64 0), (.slice none 0 0), (.slice none 0 0), (.int .i64 0)] (0, 0) rfl hW rfl) rfl ?_
              exact HE.out 10 _ hW (next_below R5.out.1.bl hO (fun k hk => by subst hk; exact Nat.le_refl _))
          · have h := HM.out
            rw [if_neg c5] at h
            have hbad : rd2.bad = false := by
              cases hb : rd2.bad
              · rfl
              · exact absurd (.inl hb) c5
            have hlen : rd2.b.length = 0 := by omega
            rw [hbad] at r1
            rw [hlen] at r0
            obtain ⟨ok, hok, h⟩ := Option.bind_eq_some_iff.1 h
            have HM := Fact.mk h
            clear h c5
            go_wp2_with fail
            refine (entry_Entry_Right.calls k x.key x.second An cn x.names x.asked x.came x.status Af cf (flds x.fields) Ab cb x.body x.gen ok _ (RN.out _ R5.out.2.2.2) hcn (RF.out _ R5.out.2.2.2) hcf (RB.out _ R5.out.2.2.2) hcb hok).mono ?_
            rintro e w5 ⟨rfl, hb5⟩
            have R6 : Fact (IsRd w w5 (w.heap.size + 1) rd2 ∧ w5.heap[w.heap.size]? = some (.cells #[(.string ⟨#[]⟩), (.string ⟨#[]⟩), (.slice none 0 0), (.int .i64 0), (.int .i64 0), (.int .i64 0), (.slice none 0 0), (.slice none 0 0), (.int .i64 0)] 27 (0, 0)) ∧ w5.heap[w4.heap.size]? = some (.cells #[.string x.key, .string x.second, .slice An x.names.length cn, .int .i64 x.asked, .int .i64 x.came, .int .i64 x.status, .slice Af (flds x.fields).length cf, .slice Ab x.body.length cb, .int .i64 x.gen] 27 (0, 0)) ∧ Only (fun k => k < w.heap.size + 1) w4 w5) :=
              ⟨R5.out.1.new hb5, (hb5.block _ (Array.getElem?_eq_some_iff.1 R5.out.2.1).1).trans R5.out.2.1, (hb5.block _ (Array.getElem?_eq_some_iff.1 R5.out.2.2.1).1).trans R5.out.2.2.1, R5.out.2.2.2.trans (Only.of_below hb5 _)⟩
            have HL2 : Fact (w.heap.size < w5.heap.size) := ⟨(Array.getElem?_eq_some_iff.1 R6.out.2.1).1⟩
            clear r0 r1 R5 hb5 hok
            cases ok with
            | false =>
              have h := HM.out
              rw [if_pos rfl] at h
              obtain rfl := Option.some.inj h
              clear h HM
              have z0 : w5.cell? ⟨w.heap.size, 0, none⟩ = some (.string ⟨#[]⟩) := by rw [cell_of_row _ _ _ _ _ _ R6.out.2.1]; rfl
              have z1 : w5.cell? ⟨w.heap.size, 1, none⟩ = some (.string ⟨#[]⟩) := by rw [cell_of_row _ _ _ _ _ _ R6.out.2.1]; rfl
              have z2 : w5.cell? ⟨w.heap.size, 2, none⟩ = some (.slice none 0 0) := by rw [cell_of_row _ _ _ _ _ _ R6.out.2.1]; rfl
              have z3 : w5.cell? ⟨w.heap.size, 3, none⟩ = some (.int .i64 0) := by rw [cell_of_row _ _ _ _ _ _ R6.out.2.1]; rfl
              have z4 : w5.cell? ⟨w.heap.size, 4, none⟩ = some (.int .i64 0) := by rw [cell_of_row _ _ _ _ _ _ R6.out.2.1]; rfl
              have z5 : w5.cell? ⟨w.heap.size, 5, none⟩ = some (.int .i64 0) := by rw [cell_of_row _ _ _ _ _ _ R6.out.2.1]; rfl
              have z6 : w5.cell? ⟨w.heap.size, 6, none⟩ = some (.slice none 0 0) := by rw [cell_of_row _ _ _ _ _ _ R6.out.2.1]; rfl
              have z7 : w5.cell? ⟨w.heap.size, 7, none⟩ = some (.slice none 0 0) := by rw [cell_of_row _ _ _ _ _ _ R6.out.2.1]; rfl
              have z8 : w5.cell? ⟨w.heap.size, 8, none⟩ = some (.int .i64 0) := by rw [cell_of_row _ _ _ _ _ _ R6.out.2.1]; rfl
              have fz : ∀ i, w5.frozen? ⟨w.heap.size, i, none⟩ = false := fun i => frozen_of_row _ _ _ _ _ R6.out.2.1
              go_wp2_with fail
              obtain ⟨hW, hO⟩ := put9 w5 w.heap.size (.string ⟨#[]⟩) (.string ⟨#[]⟩) (.slice none 0 0) (.int .i64 0) (.int .i64 0) (.int .i64 0) (.slice none 0 0) (.slice none 0 0) (.int .i64 0) R6.out.2.1
              refine bodyPost_ret (results_dec rfl _ _ w.heap.size #[(.string ⟨#[]⟩), (.string ⟨#[]⟩), (.slice none 0 0), (.int .i64 0), (.int .i64 0), (.int .i64 0), (.slice none 0 0), (.slice none 0 0), (.int .i64 0)] (0, 0) rfl hW rfl) rfl ?_
              exact HE.out 10 _ hW (next_below R6.out.1.bl hO (fun k hk => by subst hk; exact Nat.le_refl _))
            | true =>
              have h := HM.out
              rw [if_neg (by decide)] at h
              obtain rfl := Option.some.inj h
              clear h HM
              have z0 : w5.cell? ⟨w.heap.size, 0, none⟩ = some (.string ⟨#[]⟩) := by rw [cell_of_row _ _ _ _ _ _ R6.out.2.1]; rfl
              have z1 : w5.cell? ⟨w.heap.size, 1, none⟩ = some (.string ⟨#[]⟩) := by rw [cell_of_row _ _ _ _ _ _ R6.out.2.1]; rfl
              have z2 : w5.cell? ⟨w.heap.size, 2, none⟩ = some (.slice none 0 0) := by rw [cell_of_row _ _ _ _ _ _ R6.out.2.1]; rfl
              have z3 : w5.cell? ⟨w.heap.size, 3, none⟩ = some (.int .i64 0) := by rw [cell_of_row _ _ _ _ _ _ R6.out.2.1]; rfl
              have z4 : w5.cell? ⟨w.heap.size, 4, none⟩ = some (.int .i64 0) := by rw [cell_of_row _ _ _ _ _ _ R6.out.2.1]; rfl
              have z5 : w5.cell? ⟨w.heap.size, 5, none⟩ = some (.int .i64 0) := by rw [cell_of_row _ _ _ _ _ _ R6.out.2.1]; rfl
              have z6 : w5.cell? ⟨w.heap.size, 6, none⟩ = some (.slice none 0 0) := by rw [cell_of_row _ _ _ _ _ _ R6.out.2.1]; rfl
              have z7 : w5.cell? ⟨w.heap.size, 7, none⟩ = some (.slice none 0 0) := by rw [cell_of_row _ _ _ _ _ _ R6.out.2.1]; rfl
              have z8 : w5.cell? ⟨w.heap.size, 8, none⟩ = some (.int .i64 0) := by rw [cell_of_row _ _ _ _ _ _ R6.out.2.1]; rfl
              have fz : ∀ i, w5.frozen? ⟨w.heap.size, i, none⟩ = false := fun i => frozen_of_row _ _ _ _ _ R6.out.2.1
              have x0 : w5.cell? ⟨w4.heap.size, 0, none⟩ = some (.string x.key) := by rw [cell_of_row _ _ _ _ _ _ R6.out.2.2.1]; rfl
              have x1 : w5.cell? ⟨w4.heap.size, 1, none⟩ = some (.string x.second) := by rw [cell_of_row _ _ _ _ _ _ R6.out.2.2.1]; rfl
              have x2 : w5.cell? ⟨w4.heap.size, 2, none⟩ = some (.slice An x.names.length cn) := by rw [cell_of_row _ _ _ _ _ _ R6.out.2.2.1]; rfl
              have x3 : w5.cell? ⟨w4.heap.size, 3, none⟩ = some (.int .i64 x.asked) := by rw [cell_of_row _ _ _ _ _ _ R6.out.2.2.1]; rfl
              have x4 : w5.cell? ⟨w4.heap.size, 4, none⟩ = some (.int .i64 x.came) := by rw [cell_of_row _ _ _ _ _ _ R6.out.2.2.1]; rfl
              have x5 : w5.cell? ⟨w4.heap.size, 5, none⟩ = some (.int .i64 x.status) := by rw [cell_of_row _ _ _ _ _ _ R6.out.2.2.1]; rfl
              have x6 : w5.cell? ⟨w4.heap.size, 6, none⟩ = some (.slice Af (flds x.fields).length cf) := by rw [cell_of_row _ _ _ _ _ _ R6.out.2.2.1]; rfl
              have x7 : w5.cell? ⟨w4.heap.size, 7, none⟩ = some (.slice Ab x.body.length cb) := by rw [cell_of_row _ _ _ _ _ _ R6.out.2.2.1]; rfl
              have x8 : w5.cell? ⟨w4.heap.size, 8, none⟩ = some (.int .i64 x.gen) := by rw [cell_of_row _ _ _ _ _ _ R6.out.2.2.1]; rfl
              have fx : ∀ i, w5.frozen? ⟨w4.heap.size, i, none⟩ = false := fun i => frozen_of_row _ _ _ _ _ R6.out.2.2.1
              go_wp2_with fail
              obtain ⟨hW, hO⟩ := put9 w5 w.heap.size (.string x.key) (.string x.second) (.slice An x.names.length cn) (.int .i64 x.asked) (.int .i64 x.came) (.int .i64 x.status) (.slice Af (flds x.fields).length cf) (.slice Ab x.body.length cb) (.int .i64 x.gen) R6.out.2.1
              refine bodyPost_ret (results_dec rfl _ _ w.heap.size #[.string x.key, .string x.second, .slice An x.names.length cn, .int .i64 x.asked, .int .i64 x.came, .int .i64 x.status, .slice Af (flds x.fields).length cf, .slice Ab x.body.length cb, .int .i64 x.gen] (0, 0) rfl hW rfl) rfl ?_
              refine ⟨.slice An x.names.length cn, .slice Af (flds x.fields).length cf, .slice Ab x.body.length cb, rfl, ⟨An, cn, rfl, hcn, fun W hW2 => RN.out W ?_⟩, ⟨Af, cf, rfl, hcf, fun W hW2 => RF.out W ?_⟩, ⟨Ab, cb, rfl, hcb, fun W hW2 => RB.out W ?_⟩, next_below R6.out.1.bl hO (fun k hk => by subst hk; exact Nat.le_refl _)⟩
              all_goals
                exact (R6.out.2.2.2.trans (hO.mono fun k hk => by omega)).trans (hW2.mono fun k hk => by omega)
end Go.Proofs.YtllnleokjcimhaaDoor.En
