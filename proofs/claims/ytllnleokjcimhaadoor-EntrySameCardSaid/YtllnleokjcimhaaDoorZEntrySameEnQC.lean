import Derived.Test.YtllnleokjcimhaaDoorZEntrySameEnW
import Derived.Test.YtllnleokjcimhaaDoorZEntrySameOpen
import Derived.WalkKit
import Derived.ProofKit
import Derived.WideShapes
import Derived.OpenShut
import Derived.DataShut
/-
The anchor: a record that is read, and one that is spoilt.
-/
namespace Go.Proofs.YtllnleokjcimhaaDoor.En
open Go.RowKit Go.Maps Go.Proofs.YtllnleokjcimhaaDoorW.PrintWords Go.Proofs.YtllnleokjcimhaaDoorW.PrintLast Go.Proofs.YtllnleokjcimhaaDoorW.PrintMore Go.Proofs.YtllnleokjcimhaaDoor.P Go.Proofs.YtllnleokjcimhaaDoor.Pure
set_option linter.unusedVariables false
set_option linter.unusedSimpArgs false
theorem encP_ok {v : Int} {x : PE} (h : (encP v x).2 = 0) : (encP v x).1 = recOf v (restP v x) ∧ fitsP x v = true ∧ (restP v x).length ≤ 3992 := by
  unfold encP at h ⊢
  by_cases c1 : v < 1 ∨ 3 < v
  · rw [if_pos c1] at h; cases h
  · rw [if_neg c1] at h ⊢
    by_cases c2 : rightP x = false
    · rw [if_pos c2] at h; cases h
    · rw [if_neg c2] at h ⊢
      by_cases c3 : fitsP x v = false
      · rw [if_pos c3] at h; cases h
      · rw [if_neg c3] at h ⊢
        by_cases c4 : 3992 < (restP v x).length
        · rw [if_pos c4] at h; cases h
        · rw [if_neg c4]
          exact ⟨rfl, (by cases hq : fitsP x v; exact absurd hq c3; rfl), by omega⟩
theorem encP_fits {v : Int} {x : PE} (h : fitsP x v = true) (hl : (restP v x).length ≤ 3992) : encP v x = (recOf v (restP v x), 0) := by
  obtain ⟨hr, hv, -, -⟩ := fitsP_right h
  unfold encP
  rw [if_neg (by omega), if_neg (by rw [hr]; decide), if_neg (by rw [h]; decide), if_neg (by omega)]
theorem recOf_rng (v : Int) (x : PE) : ∀ c ∈ recOf v (restP v x), 0 ≤ c ∧ c < 256 := by
  unfold recOf
  refine rng_app (rng_app (rng_app ?_ (numP_rng _ _)) (numP_rng _ _)) (restP_rng v x)
  intro c hc
  simp only [List.mem_cons, List.not_mem_nil, or_false] at hc
  omega
/-- A row of bytes of one's own, byte by byte. -/
theorem bytes_form {w : World} {b : Nat} {ok : Nat → Prop} {v : Value} {l : List Int} (h : Kd.R (Kd.int .u8) 5 w b ok v l) (hp : 0 < l.length) :
    ∃ g cap, v = .slice (some ⟨g, 0, none⟩) l.length cap ∧ b ≤ g ∧ g < w.heap.size ∧ l.length ≤ cap ∧ Kd.R (Kd.int .u8) 5 w b ok (.slice (some ⟨g, 0, none⟩) l.length cap) l := by
  obtain ⟨g, cap, rfl, hb, hg, -⟩ := Kd.R_form h hp
  obtain ⟨-, hc, hr⟩ := Kd.R_reads' h
  exact ⟨g, cap, rfl, hb, hg, hc, h⟩
theorem bytes_at {w : World} {b g cap : Nat} {ok : Nat → Prop} {l : List Int} (h : Kd.R (Kd.int .u8) 5 w b ok (.slice (some ⟨g, 0, none⟩) l.length cap) l) (i : Nat) (hi : i < l.length) :
    w.cell? ⟨g, i, none⟩ = some (.int .u8 l[i]) ∧ w.frozen? ⟨g, i, none⟩ = false ∧ ∀ y : Int, ReadB (w.setCell ⟨g, i, none⟩ (.int .u8 y)) (some ⟨g, 0, none⟩) l.length (l.set i y) := by
  obtain ⟨h1, h2⟩ := Kd.R_celln 0 h (i : Int) (by omega) (by omega)
  have h3 := fun y : Int => Kd.R_putn h (i : Int) y
  simp only [Int.toNat_natCast] at h1 h2 h3
  have e : rdOf 0 l (i : Int) = l[i] := by unfold rdOf; rw [Int.toNat_natCast, List.getD_eq_getElem?_getD, List.getElem?_eq_getElem hi]; rfl
  rw [e] at h1
  refine ⟨h1, h2, fun y => ?_⟩
  have h4 := (Kd.R_reads' (h3 y)).2.2
  rw [List.length_set] at h4
  exact h4
theorem xor_byte (a b : Int) (ha : 0 ≤ a ∧ a < 256) (hb : 0 ≤ b ∧ b < 256) : 0 ≤ Go.bits .xor .u8 a b ∧ Go.bits .xor .u8 a b < 256 ∧ (b ≠ 0 → Go.bits .xor .u8 a b ≠ a) := by
  have hx : a.toNat ^^^ b.toNat < 2 ^ 8 := Nat.xor_lt_two_pow (by omega) (by omega)
  rw [u8_xor a b ha.1 ha.2 hb.1 hb.2]
  refine ⟨by omega, by omega, fun h0 he => ?_⟩
  have h1 : a.toNat ^^^ b.toNat = a.toNat := by omega
  have h2 : b.toNat = 0 := by
    have := congrArg (a.toNat ^^^ ·) h1
    simpa [← Nat.xor_assoc] using this
  omega
def eP : PE := ⟨⟨#[107]⟩, ⟨#[]⟩, [], 0, 0, 200, [], [98], 1⟩
theorem eP_bnd : Bnd eP := ⟨by decide, by decide, by decide, (fun s hs => by cases hs), by decide, (fun s hs => by cases hs), by decide, (fun c hc => by simp [eP] at hc; omega)⟩
theorem eP_fits : fitsP eP 1 = true := by decide +kernel
theorem eP_len : (restP 1 eP).length = 26 := by decide +kernel
theorem eP_ne : sameP eP zP = false := sameP_no (fun h => by have := congrArg PE.status h; cases this)
theorem const_one (W : World) (x : Int) : (convert 25 25 (.slice (some ⟨W.heap.size, 0, none⟩) 1 1)).run Tryd.prog (W.alloc (.cells #[.int .u8 x] 5)) = .ok (.slice (some ⟨W.heap.size, 0, none⟩) 1 1) (W.alloc (.cells #[.int .u8 x] 5 (1, 2))) :=
  Lib.run_convert_bytes_const W 25 5 #[.int .u8 x] 1 1 Tryd.underlying25 Tryd.underlying5
theorem read_one {W : World} {g : Nat} {x : Int} {T : TypeId} {fr : Nat × Nat} (h : W.heap[g]? = some (.cells #[.int .u8 x] T fr)) : ReadB W (some ⟨g, 0, none⟩) 1 [x] := by
  refine ⟨rfl, by decide, fun _ => ⟨_, rfl, fun j b hb => ?_⟩⟩
  have hj : j = 0 := by
    have := (List.getElem?_eq_some_iff.1 hb).1
    simp at this; exact this
  subst hj
  obtain rfl : x = b := by simpa using hb
  refine ⟨[.int .u8 x], rfl, rfl, fun i u hu => ?_⟩
  have hi : i = 0 := by rcases i with _ | i; rfl; simp at hu
  subst hi
  obtain rfl : Value.int .u8 x = u := by simpa using hu
  show W.cell? ((⟨g, 0, none⟩ : Addr).add 0) = _
  rw [show (⟨g, 0, none⟩ : Addr).add 0 = ⟨g, 0, none⟩ from rfl, cell_of_row _ _ _ _ _ _ h]; rfl
theorem rowS_nil {α : Type} (d : Kd α) (S : Nat → Prop) (w : World) : RowS d S w (.slice none 0 0) [] := ⟨none, 0, rfl, Nat.le_refl _, fun _ _ => ⟨rfl, by simp, fun h => absurd h (by simp)⟩⟩
theorem ent_e {W : World} {g : Nat} {T : TypeId} {fr : Nat × Nat} (h : W.heap[g]? = some (.cells #[.int .u8 98] T fr)) : Ent (fun k => k ≠ g) W (.agg #[.string ⟨#[107]⟩, .string ⟨#[]⟩, .slice none 0 0, .int .i64 0, .int .i64 0, .int .i64 200, .slice none 0 0, .slice (some ⟨g, 0, none⟩) 1 1, .int .i64 1]) eP :=
  ⟨.slice none 0 0, .slice none 0 0, .slice (some ⟨g, 0, none⟩) 1 1, rfl, rowS_nil _ _ _, rowS_nil _ _ _, ⟨some ⟨g, 0, none⟩, 1, rfl, Nat.le_refl _, fun W' ho => read_one ((ho.block g (Array.getElem?_eq_some_iff.1 h).1 (fun hn => hn rfl)).trans h)⟩⟩
theorem ent_z (W : World) (S : Nat → Prop) : Ent S W (.agg #[.string ⟨#[]⟩, .string ⟨#[]⟩, .slice none 0 0, .int .i64 0, .int .i64 0, .int .i64 0, .slice none 0 0, .slice none 0 0, .int .i64 0]) zP := ⟨.slice none 0 0, .slice none 0 0, .slice none 0 0, rfl, rowS_nil _ _ _, rowS_nil _ _ _, rowS_nil _ _ _⟩
set_option maxHeartbeats 4000000 in
set_option maxRecDepth 100000 in
theorem anchor_any (w : World) : Calls Tryd.prog 10 #[] w fun e w' => e = .returned (.bool true) ∧ Below w.heap.size w w' := by
  go_enter Tryd.func10, Tryd.ntmps10
  have kc := const_one
  have H0 : Fact (Ent (fun k => k ≠ w.heap.size) ((w.alloc (.cells #[.int .u8 98] 5 (1, 2))).alloc (.cells #[.string ⟨#[107]⟩, .string ⟨#[]⟩, .slice none 0 0, .int .i64 0, .int .i64 0, .int .i64 200, .slice none 0 0, .slice (some ⟨w.heap.size, 0, none⟩) 1 1, .int .i64 1] 27)) (.agg #[.string ⟨#[107]⟩, .string ⟨#[]⟩, .slice none 0 0, .int .i64 0, .int .i64 0, .int .i64 200, .slice none 0 0, .slice (some ⟨w.heap.size, 0, none⟩) 1 1, .int .i64 1]) eP ∧ Below w.heap.size w ((w.alloc (.cells #[.int .u8 98] 5 (1, 2))).alloc (.cells #[.string ⟨#[107]⟩, .string ⟨#[]⟩, .slice none 0 0, .int .i64 0, .int .i64 0, .int .i64 200, .slice none 0 0, .slice (some ⟨w.heap.size, 0, none⟩) 1 1, .int .i64 1] 27)) ∧ w.heap.size + 1 < ((w.alloc (.cells #[.int .u8 98] 5 (1, 2))).alloc (.cells #[.string ⟨#[107]⟩, .string ⟨#[]⟩, .slice none 0 0, .int .i64 0, .int .i64 0, .int .i64 200, .slice none 0 0, .slice (some ⟨w.heap.size, 0, none⟩) 1 1, .int .i64 1] 27)).heap.size ∧ ((w.alloc (.cells #[.int .u8 98] 5 (1, 2))).alloc (.cells #[.string ⟨#[107]⟩, .string ⟨#[]⟩, .slice none 0 0, .int .i64 0, .int .i64 0, .int .i64 200, .slice none 0 0, .slice (some ⟨w.heap.size, 0, none⟩) 1 1, .int .i64 1] 27)).heap[w.heap.size + 1]? = some (.cells #[.string ⟨#[107]⟩, .string ⟨#[]⟩, .slice none 0 0, .int .i64 0, .int .i64 0, .int .i64 200, .slice none 0 0, .slice (some ⟨w.heap.size, 0, none⟩) 1 1, .int .i64 1] 27 (0, 0))) := by
    have b1 := (Below.refl w.heap.size w).alloc (Nat.le_refl _) (.cells #[.int .u8 98] 5 (1, 2))
    refine ⟨ent_e (T := 5) (fr := (1, 2)) ((Below.heap_alloc _ _ _ (by simp)).trans (heap_alloc_new w _)), b1.alloc (by simp) _, by simp, heap_alloc2_new w _ _⟩
  go_wp2_with fail
  clear kc
  generalize ((w.alloc (.cells #[.int .u8 98] 5 (1, 2))).alloc (.cells #[.string ⟨#[107]⟩, .string ⟨#[]⟩, .slice none 0 0, .int .i64 0, .int .i64 0, .int .i64 200, .slice none 0 0, .slice (some ⟨w.heap.size, 0, none⟩) 1 1, .int .i64 1] 27)) = wa at *
  refine (enc_any H0.out.1 eP_bnd 1).mono ?_
  rw [encP_fits eP_fits (by rw [eP_len]; decide)]
  rintro e w1 ⟨vb, rfl, hR, hb1⟩
  have hL : (recOf 1 (restP 1 eP)).length = 34 := by rw [recOf_len, eP_len]
  obtain ⟨g, cap, rfl, hg0, hg1, hcap, hR⟩ := bytes_form hR (by show 0 < (recOf 1 (restP 1 eP)).length; rw [hL]; decide)
  dsimp only at hcap hR ⊢
  have hrng := recOf_rng 1 eP
  have HY := Fact.mk (xor_byte _ 1 (hrng _ (List.getElem_mem (by rw [hL]; decide : 33 < (recOf 1 (restP 1 eP)).length))) (by decide))
  have HT := Fact.mk (fun y h1 h2 => dec_turned 1 (restP 1 eP) (by decide) (restP_rng 1 eP) (by rw [eP_len]; decide) 33 (by decide) (by rw [hL]; decide) y h1 h2)
  have HD := Fact.mk (dec_enc eP 1 eP_fits eP_bnd.bytes (by rw [eP_len]; decide))
  have HR := Fact.mk hR
  have HG := Fact.mk hrng
  have HZ : Fact (∀ h : 33 < (recOf 1 (restP 1 eP)).length, (recOf 1 (restP 1 eP))[33] = (recOf 1 (restP 1 eP))[33]'(by rw [hL]; decide)) := ⟨fun _ => rfl⟩
  generalize (recOf 1 (restP 1 eP))[33]'(by rw [hL]; decide) = z at *
  generalize recOf 1 (restP 1 eP) = L at *
  have H1 : Fact (Ent (fun k => k ≠ w.heap.size) w1 (.agg #[.string ⟨#[107]⟩, .string ⟨#[]⟩, .slice none 0 0, .int .i64 0, .int .i64 0, .int .i64 200, .slice none 0 0, .slice (some ⟨w.heap.size, 0, none⟩) 1 1, .int .i64 1]) eP ∧ Below w.heap.size w w1 ∧ w.heap.size + 1 < wa.heap.size ∧ w1.heap[w.heap.size + 1]? = some (.cells #[.string ⟨#[107]⟩, .string ⟨#[]⟩, .slice none 0 0, .int .i64 0, .int .i64 0, .int .i64 200, .slice none 0 0, .slice (some ⟨w.heap.size, 0, none⟩) 1 1, .int .i64 1] 27 (0, 0))) :=
    ⟨H0.out.1.new hb1, next_new H0.out.2.1 hb1, H0.out.2.2.1, (hb1.block _ (Array.getElem?_eq_some_iff.1 H0.out.2.2.2).1).trans H0.out.2.2.2⟩
  have GW : Fact (wa.heap.size ≤ g ∧ g < w1.heap.size) := ⟨hg0, hg1⟩
  clear hrng hb1 hR H0 hg0 hg1
  have e34 : (L.length : Int) = 34 := by omega
  have HC := Fact.mk hcap
  clear hcap
  rw [hL]
  go_wp2_with fail
  have hd := dec_any (Kd.R_reads' HR.out).2.2 HC.out HG.out
  rw [hL, HD.out] at hd
  refine hd.mono ?_
  clear hd
  dsimp only
  rintro e w2 ⟨ve, rfl, ⟨vn, vf, vb, rfl, ⟨An, cn, rfl, hcn, hrn⟩, ⟨Af, cf, rfl, hcf, hrf⟩, ⟨Ab, cb, rfl, hcb, hrb⟩⟩, hb2⟩
  have HE : Fact (Ent (fun k => k < w1.heap.size) w2 (.agg #[.string eP.key, .string eP.second, .slice An eP.names.length cn, .int .i64 eP.asked, .int .i64 eP.came, .int .i64 eP.status, .slice Af (flds eP.fields).length cf, .slice Ab eP.body.length cb, .int .i64 eP.gen]) eP) := ⟨⟨_, _, _, rfl, ⟨An, cn, rfl, hcn, hrn⟩, ⟨Af, cf, rfl, hcf, hrf⟩, ⟨Ab, cb, rfl, hcb, hrb⟩⟩⟩
  clear hrn hrf hrb hcn hcf hcb
  have B2 := Fact.mk (hb2.trans ((Below.refl w1.heap.size w2).alloc hb2.size (.cells #[.string eP.key, .string eP.second, .slice An eP.names.length cn, .int .i64 eP.asked, .int .i64 eP.came, .int .i64 eP.status, .slice Af (flds eP.fields).length cf, .slice Ab eP.body.length cb, .int .i64 eP.gen] 27)))
  have hR2 := Kd.R_below HR.out B2.out
  obtain ⟨h33, hf33, hset⟩ := bytes_at hR2 33 (by rw [hL]; decide)
  rw [HZ.out] at h33
  have HS := Fact.mk hset
  clear hset hR2
  go_wp2_with fail
  clear h33 hf33
  have HV := Fact.mk (And.intro HY.out.1 (And.intro HY.out.2.1 (HY.out.2.2 (by decide))))
  generalize Go.bits .xor .u8 z 1 = y at *
  have HM : Fact ((w2.alloc (.cells #[.string eP.key, .string eP.second, .slice An eP.names.length cn, .int .i64 eP.asked, .int .i64 eP.came, .int .i64 eP.status, .slice Af (flds eP.fields).length cf, .slice Ab eP.body.length cb, .int .i64 eP.gen] 27)).heap[w2.heap.size]? = some (.cells #[.string eP.key, .string eP.second, .slice An eP.names.length cn, .int .i64 eP.asked, .int .i64 eP.came, .int .i64 eP.status, .slice Af (flds eP.fields).length cf, .slice Ab eP.body.length cb, .int .i64 eP.gen] 27 (0, 0)) ∧ Only (fun k => k = g) (w2.alloc (.cells #[.string eP.key, .string eP.second, .slice An eP.names.length cn, .int .i64 eP.asked, .int .i64 eP.came, .int .i64 eP.status, .slice Af (flds eP.fields).length cf, .slice Ab eP.body.length cb, .int .i64 eP.gen] 27)) ((w2.alloc (.cells #[.string eP.key, .string eP.second, .slice An eP.names.length cn, .int .i64 eP.asked, .int .i64 eP.came, .int .i64 eP.status, .slice Af (flds eP.fields).length cf, .slice Ab eP.body.length cb, .int .i64 eP.gen] 27)).setCell ⟨g, 33, none⟩ (.int .u8 y)) ∧ Only (fun k => k = g) w2 ((w2.alloc (.cells #[.string eP.key, .string eP.second, .slice An eP.names.length cn, .int .i64 eP.asked, .int .i64 eP.came, .int .i64 eP.status, .slice Af (flds eP.fields).length cf, .slice Ab eP.body.length cb, .int .i64 eP.gen] 27)).setCell ⟨g, 33, none⟩ (.int .u8 y)) ∧ w1.heap.size ≤ w2.heap.size) :=
    ⟨heap_alloc_new w2 _, Only.setCell (S := fun k => k = g) _ rfl _, (Only.alloc _ w2 _).trans (Only.setCell (S := fun k => k = g) _ rfl _), hb2.size⟩
  have h3 : Fact (Ent (fun k => k < w1.heap.size) ((w2.alloc (.cells #[.string eP.key, .string eP.second, .slice An eP.names.length cn, .int .i64 eP.asked, .int .i64 eP.came, .int .i64 eP.status, .slice Af (flds eP.fields).length cf, .slice Ab eP.body.length cb, .int .i64 eP.gen] 27)).setCell ⟨g, 33, none⟩ (.int .u8 y)) (.agg #[.string eP.key, .string eP.second, .slice An eP.names.length cn, .int .i64 eP.asked, .int .i64 eP.came, .int .i64 eP.status, .slice Af (flds eP.fields).length cf, .slice Ab eP.body.length cb, .int .i64 eP.gen]) eP ∧ Ent (fun k => k ≠ w.heap.size) ((w2.alloc (.cells #[.string eP.key, .string eP.second, .slice An eP.names.length cn, .int .i64 eP.asked, .int .i64 eP.came, .int .i64 eP.status, .slice Af (flds eP.fields).length cf, .slice Ab eP.body.length cb, .int .i64 eP.gen] 27)).setCell ⟨g, 33, none⟩ (.int .u8 y)) (.agg #[.string ⟨#[107]⟩, .string ⟨#[]⟩, .slice none 0 0, .int .i64 0, .int .i64 0, .int .i64 200, .slice none 0 0, .slice (some ⟨w.heap.size, 0, none⟩) 1 1, .int .i64 1]) eP ∧ Below w.heap.size w ((w2.alloc (.cells #[.string eP.key, .string eP.second, .slice An eP.names.length cn, .int .i64 eP.asked, .int .i64 eP.came, .int .i64 eP.status, .slice Af (flds eP.fields).length cf, .slice Ab eP.body.length cb, .int .i64 eP.gen] 27)).setCell ⟨g, 33, none⟩ (.int .u8 y)) ∧ ((w2.alloc (.cells #[.string eP.key, .string eP.second, .slice An eP.names.length cn, .int .i64 eP.asked, .int .i64 eP.came, .int .i64 eP.status, .slice Af (flds eP.fields).length cf, .slice Ab eP.body.length cb, .int .i64 eP.gen] 27)).setCell ⟨g, 33, none⟩ (.int .u8 y)).heap[w2.heap.size]? = some (.cells #[.string eP.key, .string eP.second, .slice An eP.names.length cn, .int .i64 eP.asked, .int .i64 eP.came, .int .i64 eP.status, .slice Af (flds eP.fields).length cf, .slice Ab eP.body.length cb, .int .i64 eP.gen] 27 (0, 0)) ∧ ((w2.alloc (.cells #[.string eP.key, .string eP.second, .slice An eP.names.length cn, .int .i64 eP.asked, .int .i64 eP.came, .int .i64 eP.status, .slice Af (flds eP.fields).length cf, .slice Ab eP.body.length cb, .int .i64 eP.gen] 27)).setCell ⟨g, 33, none⟩ (.int .u8 y)).heap[w.heap.size + 1]? = some (.cells #[.string ⟨#[107]⟩, .string ⟨#[]⟩, .slice none 0 0, .int .i64 0, .int .i64 0, .int .i64 200, .slice none 0 0, .slice (some ⟨w.heap.size, 0, none⟩) 1 1, .int .i64 1] 27 (0, 0))) := by
    have q1 := GW.out
    have q2 := HM.out.2.2.2
    have q3 := (Array.getElem?_eq_some_iff.1 H1.out.2.2.2).1
    have q4 := H1.out.2.2.1
    have q6 : w.heap.size + 1 < wa.heap.size := H1.out.2.2.1
    refine ⟨HE.out.step HM.out.2.2.1 (fun k hk => by omega), (H1.out.1.new hb2).step HM.out.2.2.1 (fun k hk => by omega), next_below (next_new H1.out.2.1 hb2) HM.out.2.2.1 (fun k hk => by omega), ?_, ?_⟩
    · exact (HM.out.2.1.block _ (by simp) (by omega)).trans HM.out.1
    · exact (HM.out.2.2.1.block _ (by omega) (by omega)).trans ((hb2.block _ q3).trans H1.out.2.2.2)
  have hs := HS.out y
  clear HS HR hR HE H1 HM hb2 B2
  generalize (w2.alloc (.cells #[.string eP.key, .string eP.second, .slice An eP.names.length cn, .int .i64 eP.asked, .int .i64 eP.came, .int .i64 eP.status, .slice Af (flds eP.fields).length cf, .slice Ab eP.body.length cb, .int .i64 eP.gen] 27)).setCell ⟨g, 33, none⟩ (.int .u8 y) = w3 at *
  have hd := dec_any (w := w3) (A := some ⟨g, 0, none⟩) (c := cap) (l := L.set 33 y) (by rw [List.length_set]; exact hs) (by rw [List.length_set]; exact HC.out) (fun c hc => by
    rcases List.mem_or_eq_of_mem_set hc with h | h
    · exact HG.out c h
    · rw [h]; exact ⟨HV.out.1, HV.out.2.1⟩)
  rw [List.length_set, hL, HT.out y ⟨HV.out.1, HV.out.2.1⟩ HV.out.2.2] at hd
  refine hd.mono ?_
  clear hd hs
  dsimp only
  rintro e w4 ⟨ve, rfl, ⟨vn, vf, vb, rfl, ⟨An2, cn2, rfl, -, -⟩, ⟨Af2, cf2, rfl, -, -⟩, ⟨Ab2, cb2, rfl, -, -⟩⟩, hb4⟩
  have hb5 := hb4.trans ((Below.refl w3.heap.size w4).alloc hb4.size (.cells #[.string zP.key, .string zP.second, .slice An2 zP.names.length cn2, .int .i64 zP.asked, .int .i64 zP.came, .int .i64 zP.status, .slice Af2 (flds zP.fields).length cf2, .slice Ab2 zP.body.length cb2, .int .i64 zP.gen] 27))
  have h5 : Fact (Ent (fun k => k < w1.heap.size) (w4.alloc (.cells #[.string zP.key, .string zP.second, .slice An2 zP.names.length cn2, .int .i64 zP.asked, .int .i64 zP.came, .int .i64 zP.status, .slice Af2 (flds zP.fields).length cf2, .slice Ab2 zP.body.length cb2, .int .i64 zP.gen] 27)) (.agg #[.string eP.key, .string eP.second, .slice An eP.names.length cn, .int .i64 eP.asked, .int .i64 eP.came, .int .i64 eP.status, .slice Af (flds eP.fields).length cf, .slice Ab eP.body.length cb, .int .i64 eP.gen]) eP ∧ Ent (fun k => k ≠ w.heap.size) (w4.alloc (.cells #[.string zP.key, .string zP.second, .slice An2 zP.names.length cn2, .int .i64 zP.asked, .int .i64 zP.came, .int .i64 zP.status, .slice Af2 (flds zP.fields).length cf2, .slice Ab2 zP.body.length cb2, .int .i64 zP.gen] 27)) (.agg #[.string ⟨#[107]⟩, .string ⟨#[]⟩, .slice none 0 0, .int .i64 0, .int .i64 0, .int .i64 200, .slice none 0 0, .slice (some ⟨w.heap.size, 0, none⟩) 1 1, .int .i64 1]) eP ∧ Below w.heap.size w (w4.alloc (.cells #[.string zP.key, .string zP.second, .slice An2 zP.names.length cn2, .int .i64 zP.asked, .int .i64 zP.came, .int .i64 zP.status, .slice Af2 (flds zP.fields).length cf2, .slice Ab2 zP.body.length cb2, .int .i64 zP.gen] 27))) := ⟨h3.out.1.new hb5, h3.out.2.1.new hb5, next_new h3.out.2.2.1 hb5⟩
  have p1 := (hb5.block _ (Array.getElem?_eq_some_iff.1 h3.out.2.2.2.1).1).trans h3.out.2.2.2.1
  have p2 := (hb5.block _ (Array.getElem?_eq_some_iff.1 h3.out.2.2.2.2).1).trans h3.out.2.2.2.2
  have P1 := Fact.mk p1
  obtain ⟨x0, x1, x2, x3, x4, x5, x6, x7, x8⟩ := nine p1
  obtain ⟨y0, y1, y2, y3, y4, y5, y6, y7, y8⟩ := nine p2
  clear p1 p2 hb5 hb4 h3
  go_wp2_with fail
  refine (same_any h5.out.1 h5.out.2.1 eP_bnd).mono ?_
  rw [sameP_self]
  rintro e w6 ⟨rfl, hb6⟩
  have h6 : Fact (Ent (fun k => k < w1.heap.size) w6 (.agg #[.string eP.key, .string eP.second, .slice An eP.names.length cn, .int .i64 eP.asked, .int .i64 eP.came, .int .i64 eP.status, .slice Af (flds eP.fields).length cf, .slice Ab eP.body.length cb, .int .i64 eP.gen]) eP ∧ Below w.heap.size w w6) := ⟨h5.out.1.new hb6, next_new h5.out.2.2 hb6⟩
  clear x0 x1 x2 x3 x4 x5 x6 x7 x8 y0 y1 y2 y3 y4 y5 y6 y7 y8
  obtain ⟨x0, x1, x2, x3, x4, x5, x6, x7, x8⟩ := nine ((hb6.block _ (Array.getElem?_eq_some_iff.1 P1.out).1).trans P1.out)
  clear hb6 h5 P1
  go_wp2_with fail
  refine (same_any h6.out.1 (ent_z w6 (fun _ => False)) eP_bnd).mono ?_
  rw [eP_ne]
  rintro e w7 ⟨rfl, hb7⟩
  have B7 := Fact.mk (next_new h6.out.2 hb7)
  clear x0 x1 x2 x3 x4 x5 x6 x7 x8 hb7 h6
  go_wp2_with fail
  go_ret
  exact ⟨rfl, B7.out⟩
end Go.Proofs.YtllnleokjcimhaaDoor.En
/-
An argument's entry: what is read as data of the entry's type is an entry.
-/
namespace Go.Proofs.YtllnleokjcimhaaDoor.En
open Go.RowKit Go.Maps Go.WideShapes Go.Proofs.YtllnleokjcimhaaDoorW.PrintWords Go.Proofs.YtllnleokjcimhaaDoorW.PrintLast Go.Proofs.YtllnleokjcimhaaDoorW.PrintMore Go.Proofs.YtllnleokjcimhaaDoor.P Go.Proofs.YtllnleokjcimhaaDoor.Pure
set_option linter.unusedVariables false
set_option linter.unusedSimpArgs false
/-- What an argument's entry has at least. -/
structure Good (x : PE) : Prop where
  names : x.names.length ≤ 9223372036854775807
  fields : x.fields.length ≤ 9223372036854775807
  bytes : ∀ c ∈ x.body, 0 ≤ c ∧ c < 256
theorem wf_byte {k : Int} (h : (Lit.int .u8 k).wf = true) : 0 ≤ k ∧ k < 256 := by
  have h1 : 0 ≤ k ∧ k ≤ 255 := (Go.Lit.wf_int_iff .u8 k).1 h
  omega
abbrev KE := Kd.pair Kd.string (Kd.pair Kd.string (Kd.pair (Kd.slice 9 Kd.string) (Kd.pair (Kd.int .i64) (Kd.pair (Kd.int .i64) (Kd.pair (Kd.int .i64) (Kd.pair (Kd.slice 53 k53) (Kd.pair (Kd.slice 5 (Kd.int .u8)) (Kd.int .i64))))))))
theorem opens_fld : Opens Tryd.prog 53 k53 (fun x => x.f0.size ≤ 9223372036854775807 ∧ x.f1.size ≤ 9223372036854775807) :=
  Opens.iso (Opens.struct Tryd.underlying53 (Fields.cons rfl rfl (Opens.string Tryd.underlying9) (by kernel_rfl) (Fields.last rfl rfl (Opens.string Tryd.underlying9) (by kernel_rfl))) (by kernel_rfl)) (fun x : S53 => (x.f0, x.f1)) (fun x => (⟨x.1, x.2⟩ : S53)) (fun _ => rfl)
def GoodT (x : ByteArray × ByteArray × List ByteArray × Int × Int × Int × List S53 × List Int × Int) : Prop :=
  x.1.size ≤ 9223372036854775807 ∧ x.2.1.size ≤ 9223372036854775807 ∧ (x.2.2.1.length ≤ 9223372036854775807 ∧ ∀ y ∈ x.2.2.1, y.size ≤ 9223372036854775807) ∧ (Lit.int .i64 x.2.2.2.1).wf = true ∧ (Lit.int .i64 x.2.2.2.2.1).wf = true ∧ (Lit.int .i64 x.2.2.2.2.2.1).wf = true ∧ (x.2.2.2.2.2.2.1.length ≤ 9223372036854775807 ∧ ∀ y ∈ x.2.2.2.2.2.2.1, y.f0.size ≤ 9223372036854775807 ∧ y.f1.size ≤ 9223372036854775807) ∧ (x.2.2.2.2.2.2.2.1.length ≤ 9223372036854775807 ∧ ∀ y ∈ x.2.2.2.2.2.2.2.1, (Lit.int .u8 y).wf = true) ∧ (Lit.int .i64 x.2.2.2.2.2.2.2.2).wf = true
theorem opens_ent : Opens Tryd.prog 27 KE GoodT :=
  Opens.struct Tryd.underlying27
    (Fields.cons rfl rfl (Opens.string Tryd.underlying9) (by kernel_rfl)
    (Fields.cons rfl rfl (Opens.string Tryd.underlying9) (by kernel_rfl)
    (Fields.cons rfl rfl (Opens.slice Tryd.underlying22 (Opens.string Tryd.underlying9) (by kernel_rfl)) (by kernel_rfl)
    (Fields.cons rfl rfl (Opens.int Tryd.underlying3) (by kernel_rfl)
    (Fields.cons rfl rfl (Opens.int Tryd.underlying3) (by kernel_rfl)
    (Fields.cons rfl rfl (Opens.int Tryd.underlying3) (by kernel_rfl)
    (Fields.cons rfl rfl (Opens.slice Tryd.underlying24 opens_fld (by kernel_rfl)) (by kernel_rfl)
    (Fields.cons rfl rfl (Opens.slice Tryd.underlying25 (Opens.int Tryd.underlying5) (by kernel_rfl)) (by kernel_rfl)
    (Fields.last rfl rfl (Opens.int Tryd.underlying3) (by kernel_rfl)))))))))) (by kernel_rfl)
theorem flds_back (xs : List S53) : flds (xs.map fun x => (x.f0, x.f1)) = xs := by
  unfold flds; rw [List.map_map]; exact (List.map_congr_left (fun x _ => rfl)).trans (List.map_id xs)
set_option maxRecDepth 100000 in
theorem open_ent {H : Type} {enc : TypeId × Value → H} {W : World} {base : Nat} {v : Value} {spare : Nat → Bool} {held : Bool} {d : DataW H} {ps : List MemPlace}
    (hok : Value.okWide Tryd.prog W .any base 27 v) (h : DataW.Trod enc Tryd.prog W 0 spare held 27 v d ps) : ∃ x : PE, Ent (fun _ => False) W v x ∧ Good x := by
  obtain ⟨cs, rfl, hsz⟩ := okWide_struct Tryd.underlying27 hok
  obtain ⟨fuel, hf⟩ := h
  obtain ⟨⟨key, second, names, asked, came, status, fs, body, gen⟩, hK, g⟩ := opens_ent enc W _ _ _ _ _ hf
  obtain ⟨c0, r0, e0, k0, c1, r1, e1, k1, c2, r2, e2, k2, c3, r3, e3, k3, c4, r4, e4, k4, c5, r5, e5, k5, c6, r6, e6, k6, c7, c8, e7, k7, k8⟩ := hK
  obtain ⟨A2, n2, rfl, l2, q2⟩ := k2
  obtain ⟨A6, n6, rfl, l6, q6⟩ := k6
  obtain ⟨A7, n7, rfl, l7, q7⟩ := k7
  have k0 : c0 = [.string key] := k0
  have k1 : c1 = [.string second] := k1
  have k3 : c3 = [.int .i64 asked] := k3
  have k4 : c4 = [.int .i64 came] := k4
  have k5 : c5 = [.int .i64 status] := k5
  have k8 : c8 = [.int .i64 gen] := k8
  dsimp only at l2 l6 l7 q2 q6 q7 g e7
  subst k0 k1 k3 k4 k5 k8 e7 e6 e5 e4 e3 e2 e1
  have ev : cs = #[.string key, .string second, .slice A2 names.length n2, .int .i64 asked, .int .i64 came, .int .i64 status, .slice A6 fs.length n6, .slice A7 body.length n7, .int .i64 gen] := by
    apply Array.toList_inj.1
    exact e0
  subst ev
  refine ⟨⟨key, second, names, asked, came, status, fs.map fun x => (x.f0, x.f1), body, gen⟩, ⟨.slice A2 names.length n2, .slice A6 fs.length n6, .slice A7 body.length n7, rfl, RowS.of_C q2 l2, ?_, RowS.of_C q7 l7⟩, ?_⟩
  · dsimp only
    rw [flds_back]
    exact RowS.of_C q6 l6
  · obtain ⟨-, -, g2, -, -, -, g6, g7, -⟩ := g
    refine ⟨g2.1, ?_, fun c hc => wf_byte (g7.2 c hc)⟩
    dsimp only
    rw [List.length_map]
    exact g6.1
end Go.Proofs.YtllnleokjcimhaaDoor.En
