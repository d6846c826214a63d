import Derived.Test.YtgkgljendffhlaaDoorZPlaceEscapesPx0
import Derived.Test.YtgkgljendffhlaaDoorZPlaceEscapesPx2
namespace Go.Proofs.YtgkgljendffhlaaDoor.P
open Go.RowKit Go.Proofs.YtgkgljendffhlaaDoorW.PrintWords Go.Proofs.YtgkgljendffhlaaDoorW.PrintLast Go.Proofs.YtgkgljendffhlaaDoorW.PrintMore
attribute [local go_sem] max2_int min2_int max_two min_two max_three min_three max_four min_four u8_div16 u8_mod16
set_option linter.unusedVariables false
set_option linter.unusedSimpArgs false
/-! ### sign_Same: function 17 -/
def sign_Same.f (a0 : ByteArray) (a1 : ByteArray) : Option (Bool) := (sign_Lower.f a0).bind fun t114 => ((sign_Lower.f a1).bind fun t115 => (some (t114.toList == t115.toList)))
set_option maxHeartbeats 8000000 in
set_option maxRecDepth 100000 in
theorem sign_Same.calls (a0 : ByteArray) (a1 : ByteArray) (r : Bool) (w : World) (h : sign_Same.f a0 a1 = some r) :
  Calls Tryd.prog 17 #[.string a0, .string a1] w fun e w' => e = .returned (.bool r) ∧ Below w.heap.size w w' := by
 have HB := Aside0.mk (Below.refl w.heap.size w)
 have H : ((sign_Lower.f a0).bind fun t114 => ((sign_Lower.f a1).bind fun t115 => (some (t114.toList == t115.toList)))) = some r := h
 clear h
 replace H := Option.bind_eq_some_iff.mp H
 obtain ⟨t114, A30, H⟩ := H
 (try dsimp only at H)
 have A3 := Aside0.mk A30
 clear A30
 replace H := Option.bind_eq_some_iff.mp H
 obtain ⟨t115, A40, H⟩ := H
 (try dsimp only at H)
 have A4 := Aside0.mk A40
 clear A40
 obtain rfl := Option.some.inj H
 go_enter Tryd.func17, Tryd.ntmps17
 go_wp2_with (first | ((with_reducible refine gate_callee (f := 30) rfl ?_); refine goesL_ (some 6) rfl rfl Tryd.func30 (by kernel_rfl) rfl #[.string a0] rfl (by (try simp only [List.map_toArray, List.map_cons, List.map_nil]); first | done | rfl | (simp only [List.length_drop, List.length_take]; rfl)) ?_; (with_reducible refine (sign_Lower.calls a0 t114 _ A3.out).mono ?_); rintro e w5 ⟨rfl, hb⟩; refine ⟨_, rfl, ?_⟩; have n0_ := Aside0.mk (below_step (by repeat (first | (with_reducible first | exact HB.out | apply below_alloc | apply pw_below_drewN | apply below_drew1) | exact HB.out)) hb); clear HB; have HB := n0_; clear n0_; (try clear hb); (try clear hb2); (try clear hk); (try clear hi)) | ((with_reducible refine gate_callee (f := 30) rfl ?_); refine goesL_ (some 8) rfl rfl Tryd.func30 (by kernel_rfl) rfl #[.string a1] rfl (by (try simp only [List.map_toArray, List.map_cons, List.map_nil]); first | done | rfl | (simp only [List.length_drop, List.length_take]; rfl)) ?_; (with_reducible refine (sign_Lower.calls a1 t115 _ A4.out).mono ?_); rintro e w6 ⟨rfl, hb⟩; refine ⟨_, rfl, ?_⟩; have n0_ := Aside0.mk (below_step (by repeat (first | (with_reducible first | exact HB.out | apply below_alloc | apply pw_below_drewN | apply below_drew1) | exact HB.out)) hb); clear HB; have HB := n0_; clear n0_; (try clear hb); (try clear hb2); (try clear hk); (try clear hi)))
 go_ret
 exact ⟨by first | rfl | (simp <;> rfl) | (simp [*] <;> rfl) | (simp [ne_nil_B, eq_nil_B]; done) | (simp [ne_nil_B, eq_nil_B] <;> rfl), by repeat (first | (with_reducible first | exact HB.out | apply below_alloc | apply pw_below_drewN | apply below_drew1) | exact HB.out)⟩
/-! ### strings_IndexAny: function 18 -/
theorem get_hi (s : ByteArray) (i : Nat) (h : 128 ≤ (s.get! i).toNat) : ∃ hi : i < s.size, 128 ≤ (s[i]'hi).toNat := by
 by_cases hi : i < s.size
 ·refine ⟨hi, ?_⟩
  have e := get_at s i hi
  rw [Nat.add_zero] at e
  rwa [e] at h
 ·exfalso
  have : s.get! i = 0 := by
   have h2 : ¬ i < s.data.size := hi
   show s.data[i]! = 0
   rw [getElem!_neg s.data i h2]; rfl
  rw [this] at h
  exact absurd h (by decide)
/-- A rune of many bytes: each of its bytes is great. -/
theorem decode_skips (s : ByteArray) (pos : Nat) (h : pos < s.size) (ha : 128 ≤ (s[pos]'h).toNat) : ∀ j, j < (Utf8.decode s pos).2 → 128 ≤ (s.get! (pos + j)).toNat := by
 have h0 : 128 ≤ (s.get! (pos + 0)).toNat := by rw [get_at s pos h]; exact ha
 intro j hj
 simp only [Utf8.decode] at hj
 repeat' split at hj
 all_goals
  have hjl : j = 0 ∨ j = 1 ∨ j = 2 ∨ j = 3 := by
   simp only at hj
   omega
  rcases hjl with rfl | rfl | rfl | rfl
 all_goals simp_all [Utf8.runeError]
 all_goals omega
set_option maxHeartbeats 4000000 in
set_option maxRecDepth 100000 in
/-- A great rune isn't in "/?". -/
theorem indexRune_great (r : Int) (h0 : 128 ≤ r) (h1 : r ≤ 2147483647) (w : World) : Calls Tryd.prog 35 #[.string ⟨#[47, 63]⟩, .int .i32 r] w fun e w' => e = .returned (.int .i64 (-1)) ∧ Below w.heap.size w w' := by
 by_cases hr : r = 65533
 ·subst hr
  go_enter Tryd.func35, Tryd.ntmps35
  go_wp2
  go_loopg [5, 6] 2 (fun g _ _ wx => ∃ i : Nat, i + g = 2 ∧ Aside0 (i ≤ 2) ∧ wx = w.iter ⟨#[47, 63]⟩ i)
  case atStart => exact ⟨0, by omega, ⟨by omega⟩, rfl⟩
  case round =>
   obtain ⟨i, hig, hi, rfl⟩ := hrel
   cases gk with
   | zero =>
    obtain rfl : i = 2 := by omega
    have hnx := run_next_end (P := Tryd.prog) w ⟨#[47, 63]⟩ 2
    go_wp2
    go_ret
    exact ⟨rfl, below_alloc (Below.refl _ _) _⟩
   | succ g =>
    have hi2 : i = 0 ∨ i = 1 := by have := hi.out; omega
    rcases hi2 with rfl | rfl
    ·have hnx := fun ty => run_next_ascii (P := Tryd.prog) w ⟨#[47, 63]⟩ 0 ty (by decide) (by decide)
     go_wp2
     go_roundg g
     case measure => omega
     case rel => exact ⟨1, by omega, ⟨by omega⟩, rfl⟩
    ·have hnx := fun ty => run_next_ascii (P := Tryd.prog) w ⟨#[47, 63]⟩ 1 ty (by decide) (by decide)
     go_wp2
     go_roundg g
     case measure => omega
     case rel => exact ⟨2, by omega, ⟨by omega⟩, rfl⟩
 ·have hr1 : ((r : Int) == 65533) = false := by simpa using hr
  have h0z : decide (r < 128) = false := decide_eq_false (by omega)
  have h0y : decide ((0 : Int) ≤ r) = true := decide_eq_true (by omega)
  cases hv : Lib.validRune r with
  | false =>
   have hvv := fun w => (Tryd.utf8_ValidRune r w)
   rw [hv] at hvv
   clear hv hr h0 h1
   go_enter Tryd.func35, Tryd.ntmps35
   go_wp2_with (go_at_call 51; refine (hvv _).mono ?_; rintro e w' ⟨rfl, hw⟩; rw [hw])
   go_ret
   exact ⟨rfl, Below.refl _ _⟩
  | true =>
   have hvv := fun w => (Tryd.utf8_ValidRune r w)
   rw [hv] at hvv
   have hval : Utf8.valid r = true := by
    simp only [Lib.validRune, Utf8.valid, Bool.or_eq_true, Bool.and_eq_true, decide_eq_true_eq] at hv ⊢
    omega
   obtain ⟨f2, f4, fl⟩ := encode_facts r hval h0
   clear hval hv hr h0 h1
   generalize hrs : Utf8.encode r = rs at *
   have HRS := Lib.hid hrs
   clear hrs
   by_cases hz : rs.size = 2
   ·obtain ⟨a, b, rfl⟩ : ∃ a b, rs = ⟨#[a, b]⟩ := by
     obtain ⟨d⟩ := rs
     obtain ⟨l⟩ := d
     have hl : l.length = 2 := hz
     match l, hl with
     | [a, b], _ => exact ⟨a, b, rfl⟩
    have hb : 128 ≤ b.toNat := fl (Nat.lt_succ_self 1)
    have hbn : ((63 : Int) == (b.toNat : Int)) = false := beq_eq_false_iff_ne.2 (by omega)
    have hbm : ((63 : Int) != (b.toNat : Int)) = true := by rw [bne_iff_ne]; omega
    have hq : ∀ (h1 : 1 < (⟨#[47, 63]⟩ : ByteArray).size) (h2 : 1 < (⟨#[a, b]⟩ : ByteArray).size), ((((⟨#[47, 63]⟩ : ByteArray)[1]'h1).toNat : Int) != (((⟨#[a, b]⟩ : ByteArray)[1]'h2).toNat : Int)) = true := fun _ _ => hbm
    clear f2 f4 fl hz hb
    have hrs := HRS.out
    clear HRS
    go_enter Tryd.func35, Tryd.ntmps35
    go_wp2_with (go_at_call 51; refine (hvv _).mono ?_; rintro e w' ⟨rfl, hw⟩; rw [hw])
    go_step3
    go_wp2
    have hib : ∀ (c : Int) w, Calls Tryd.prog 47 #[.string ⟨#[]⟩, .int .u8 c] w fun e w' => e = .returned (.int .i64 (-1)) ∧ w' = w := fun c w => Tryd.strings_IndexByte ⟨#[]⟩ c w
    have hw2 : IntKind.i64.wrap 2 = 2 := by decide
    have hneg : decide ((-1 : Int) < 0) = true := by decide
    have hsl := fun W => (show Sem.run Tryd.prog (Instr.slice 9 (.string ⟨#[47, 63]⟩) (some (.int .i64 2)) none none) W = .ok (.string ⟨#[]⟩) W from by go_simp; rfl)
    go_loopg [9] 1 (fun g v9 wx => v9 = .int .i64 1 ∧ wx = w)
    case atStart => exact ⟨rfl, rfl⟩
    case round =>
     obtain ⟨rfl, rfl⟩ := hrel
     go_wp2
     go_step3
     go_wp2
     go_quiet (fail)
     have HB := Aside0.mk (pw_below_drewN (Below.refl wr.heap.size wr) nq)
     generalize wr.drewN nq = wz at *
     go_wp2
     go_quiet ((go_at_call 47; exact Calls.quiet_of_same (hib _ _)))
     go_wp2
     rw [Exit.noGoto_ret]
     go_simp
     go_ret
     exact ⟨rfl, pw_below_drewN HB.out _⟩
   ·have hz3 : 3 ≤ rs.size := by omega
    have hz4 : decide ((rs.size : Int) - 1 < 2) = false := decide_eq_false (by omega)
    have hrs := HRS.out
    clear HRS fl
    go_enter Tryd.func35, Tryd.ntmps35
    go_wp2_with (go_at_call 51; refine (hvv _).mono ?_; rintro e w' ⟨rfl, hw⟩; rw [hw])
    go_step3
    go_wp2
    go_loopg [9] 1 (fun g v9 wx => v9 = .int .i64 ((rs.size : Int) - 1) ∧ wx = w)
    case atStart => exact ⟨rfl, rfl⟩
    case round =>
     obtain ⟨rfl, rfl⟩ := hrel
     go_wp2
     rw [Exit.noGoto_ret]
     go_ret
     exact ⟨rfl, Below.refl _ _⟩
theorem qm_great (x : UInt8) (h : 128 ≤ x.toNat) : ([47, 63] : List UInt8).contains x = false := by
 have h1 : x ≠ 47 := by intro e; subst e; exact absurd h (by decide)
 have h2 : x ≠ 63 := by intro e; subst e; exact absurd h (by decide)
 simp [h1, h2]
theorem noany_more (s : ByteArray) (i n : Nat) (h : Lib.NoAny s.data.toList [47, 63] i) (hg : ∀ j, j < n → 128 ≤ (s.get! (i + j)).toNat) : Lib.NoAny s.data.toList [47, 63] (i + n) := by
 intro j b hj hb
 rcases Nat.lt_or_ge j i with h1 | h1
 ·exact h j b h1 hb
 ·have h2 := hg (j - i) (by omega)
  rw [show i + (j - i) = j from by omega] at h2
  obtain ⟨hi, h3⟩ := get_hi s j h2
  have e : s.data.toList[j]? = some (s[j]'hi) := Lib.data_getElem? s j hi
  rw [e] at hb
  have hb := Option.some.inj hb
  rw [← hb]
  exact qm_great _ h3
set_option maxHeartbeats 4000000 in
set_option maxRecDepth 100000 in
theorem indexAny_short (s : ByteArray) (w : World) (h8 : s.size ≤ 8) : Calls Tryd.prog 18 #[.string s, .string ⟨#[47, 63]⟩] w fun e w' => e = .returned (.int .i64 (Lib.indexAny s.data.toList [47, 63])) ∧ Below w.heap.size w w' := by
 have h8z : decide ((8 : Int) < (s.size : Int)) = false := decide_eq_false (by omega)
 have HI0 := Aside0.mk (World.iter_heap w s 0)
 have HB0 := Aside0.mk (below_alloc (Below.refl w.heap.size w) (.stringIter s 0))
 go_enter Tryd.func18, Tryd.ntmps18
 go_wp2_with (go_at_call 36; refine (Tryd.strings_shouldUseASCIISet _ _).mono ?_; rintro e w' ⟨rfl, hw⟩; rw [hw, h8z])
 go_loopg [9, 10] s.size (fun g _ _ wx => ∃ i : Nat, Aside0 (s.size ≤ i + g) ∧ Aside0 (wx.heap[w.heap.size]? = some (.stringIter s i)) ∧ Aside0 (Below w.heap.size w wx) ∧ Aside0 (Lib.NoAny s.data.toList [47, 63] i))
 case atStart => exact ⟨0, ⟨by omega⟩, HI0, HB0, ⟨Lib.NoAny.zero _ _⟩⟩
 case round =>
  obtain ⟨i, hig, HI, HB, HN⟩ := hrel
  clear HI0 HB0
  by_cases hi : i < s.size
  ·cases gk with
   | zero => exact absurd hig.out (by omega)
   | succ g =>
    have hnx := fun ty => Lib.run_next_any_at (P := Tryd.prog) wr w.heap.size s i ty HI.out hi
    have HI2 := Aside0.mk (Lib.iterAt_heap wr w.heap.size s i (i + (Utf8.decode s i).2) HI.out)
    have HB2 := Aside0.mk (Lib.below_iterAt HB.out (Nat.le_refl _) s (i + (Utf8.decode s i).2))
    have hle := decode_le s i
    by_cases ha : (s[i]'hi).toNat < 128
    ·have hd := decode_ascii s i hi ha
     obtain ⟨x, hx⟩ : ∃ x : UInt8, s[i]'hi = x := ⟨_, rfl⟩
     have hxl : s.data.toList[i]? = some x := by rw [← hx]; exact Lib.data_getElem? s i hi
     rw [hx] at hd ha
     rw [hd] at hnx HI2 HB2
     simp only at hnx HI2 HB2
     have Hx := Aside0.mk hxl
     clear hd hle hx hxl HI HB
     generalize wr.iterAt w.heap.size s (i + 1) = wy at *
     have hcon := Lib.contains_iff_indexByte [47, 63] x
     have hback : ((x.toNat : Int)).toNat.toUInt8 = x := by simp
     cases hin : ([47, 63] : List UInt8).contains x
     ·rw [hin] at hcon
      have hlt : ¬ ((0 : Int) ≤ Lib.indexByte [47, 63] x) := of_decide_eq_false hcon.symm
      clear hcon
      have HN2 := Aside0.mk (HN.out.succ Hx.out hin)
      clear hin HN
      go_wp2_with (go_at_call 35; refine (Tryd.strings_IndexRune_ascii _ _ _ (by omega) (by omega)).mono ?_; rintro e w' ⟨rfl, hw⟩; rw [hw, hback])
      go_roundg g
      case measure => omega
      case rel => exact ⟨i + 1, ⟨by have := hig.out; omega⟩, HI2, HB2, HN2⟩
     ·rw [hin] at hcon
      have hge : (0 : Int) ≤ Lib.indexByte [47, 63] x := of_decide_eq_true hcon.symm
      clear hcon
      have HV := Lib.hid (Lib.indexAny_hit HN.out Hx.out hin)
      clear hin
      go_wp2_with (go_at_call 35; refine (Tryd.strings_IndexRune_ascii _ _ _ (by omega) (by omega)).mono ?_; rintro e w' ⟨rfl, hw⟩; rw [hw, hback])
      go_ret
      exact ⟨by rw [HV.out]; rfl, HB2.out⟩
    ·obtain ⟨hr0, hn1⟩ := decode_high s i hi (by omega)
     have HN2 := Aside0.mk (noany_more s i (Utf8.decode s i).2 HN.out (decode_skips s i hi (by omega)))
     clear ha HI HB HN
     generalize (Utf8.decode s i).1 = r at *
     generalize (Utf8.decode s i).2 = n at *
     generalize wr.iterAt w.heap.size s (i + n) = wy at *
     have HN1 := Aside0.mk hn1
     clear hn1
     go_wp2_with (go_at_call 35; refine (indexRune_great (r : Int) (by omega) (by omega) _).mono ?_; rintro e w2 ⟨rfl, hb2⟩; have HI3 := Aside0.mk ((hb2.block _ (Array.getElem?_eq_some_iff.1 HI2.out).1).trans HI2.out); have HB3 := Aside0.mk (below_then HB2.out HB2.out.size hb2); clear hb2)
     go_roundg g
     case measure => omega
     case rel => exact ⟨i + n, ⟨by have := hig.out; have := HN1.out; omega⟩, HI3, HB3, HN2⟩
  ·have hnx := fun ty => Lib.run_next_end_at (P := Tryd.prog) wr w.heap.size s i ty HI.out hi
   have HV := Lib.hid (Lib.indexAny_none (s := s.data.toList) (chars := [47, 63]) (fun j b hj => HN.out j b (by rw [← Lib.size_eq] at hj; omega)))
   go_wp2
   go_ret
   exact ⟨by rw [HV.out]; rfl, HB.out⟩
def strings_IndexAny.f (a0 a1 : ByteArray) : Option Int := if a0.size < 4294967281 ∧ a1 = ⟨#[47, 63]⟩ then some (Lib.indexAny a0.data.toList [47, 63]) else none
theorem strings_IndexAny.calls (a0 a1 : ByteArray) (r : Int) (w : World) (h : strings_IndexAny.f a0 a1 = some r) :
  Calls Tryd.prog 18 #[.string a0, .string a1] w fun e w' => e = .returned (.int .i64 r) ∧ Below w.heap.size w w' := by
 unfold strings_IndexAny.f at h
 split at h
 case isFalse => cases h
 rename_i hs
 obtain ⟨hs, rfl⟩ := hs
 obtain rfl := Option.some.inj h
 rcases Nat.lt_or_ge 8 a0.size with h8 | h8
 ·refine (Tryd.strings_IndexAny_long (fun w => (zero_of_info (P := Tryd.prog) (t := 60) (v := .agg (Array.replicate 256 (.bool false))) (n := 256) (by kernel_rfl)).1 w) a0 ⟨#[47, 63]⟩ w (by decide) h8 hs (by decide) (ascii_of_all (by decide))).mono ?_
  rintro e w' ⟨rfl, rfl⟩
  exact ⟨rfl, below_alloc (below_alloc (Below.refl _ _) _) _⟩
 ·exact indexAny_short a0 w h8
/-! ### strings_HasPrefix: function 19 -/
def strings_HasPrefix.f (a0 a1 : ByteArray) : Option Bool := some (Lib.hasPrefix a0.data.toList a1.data.toList)
theorem strings_HasPrefix.calls (a0 a1 : ByteArray) (r : Bool) (w : World) (h : strings_HasPrefix.f a0 a1 = some r) :
  Calls Tryd.prog 19 #[.string a0, .string a1] w fun e w' => e = .returned (.bool r) ∧ Drawn0 w w' := by
 obtain rfl := Option.some.inj h
 exact (Tryd.strings_HasPrefix a0 a1 w).mono fun e w' ⟨he, hw⟩ => ⟨he, hw ▸ Drawn0.refl _⟩
/-! ### place_digit: function 41 -/
def place_digit.f (a0 : Int) : Option (Int) := if a0 ≥ 97 then (if a0 ≤ 102 then ((strings_IndexByte.f (⟨#[48, 49, 50, 51, 52, 53, 54, 55, 56, 57, 65, 66, 67, 68, 69, 70]⟩ : ByteArray) ((a0 - 32) % 256)).bind fun t116 => (some t116)) else ((strings_IndexByte.f (⟨#[48, 49, 50, 51, 52, 53, 54, 55, 56, 57, 65, 66, 67, 68, 69, 70]⟩ : ByteArray) a0).bind fun t117 => (some t117))) else ((strings_IndexByte.f (⟨#[48, 49, 50, 51, 52, 53, 54, 55, 56, 57, 65, 66, 67, 68, 69, 70]⟩ : ByteArray) a0).bind fun t118 => (some t118))
set_option maxHeartbeats 8000000 in
set_option maxRecDepth 100000 in
theorem place_digit.calls (a0 : Int) (r : Int) (w : World) (h : place_digit.f a0 = some r) :
  Calls Tryd.prog 41 #[.int .u8 a0] w fun e w' => e = .returned (.int .i64 r) ∧ Drawn0 w w' := by
 have H : (if a0 ≥ 97 then (if a0 ≤ 102 then ((strings_IndexByte.f (⟨#[48, 49, 50, 51, 52, 53, 54, 55, 56, 57, 65, 66, 67, 68, 69, 70]⟩ : ByteArray) ((a0 - 32) % 256)).bind fun t116 => (some t116)) else ((strings_IndexByte.f (⟨#[48, 49, 50, 51, 52, 53, 54, 55, 56, 57, 65, 66, 67, 68, 69, 70]⟩ : ByteArray) a0).bind fun t117 => (some t117))) else ((strings_IndexByte.f (⟨#[48, 49, 50, 51, 52, 53, 54, 55, 56, 57, 65, 66, 67, 68, 69, 70]⟩ : ByteArray) a0).bind fun t118 => (some t118))) = some r := h
 clear h
 by_cases c2 : a0 ≥ 97
 ·rw [if_pos c2] at H
  have c2b0 : decide (97 ≤ a0) = true := decide_eq_true c2
  clear c2
  by_cases c3 : a0 ≤ 102
  ·rw [if_pos c3] at H
   have c3b0 : decide (a0 ≤ 102) = true := decide_eq_true c3
   clear c3
   replace H := Option.bind_eq_some_iff.mp H
   obtain ⟨t116, A40, H⟩ := H
   (try dsimp only at H)
   have A4 := Aside0.mk A40
   clear A40
   obtain rfl := Option.some.inj H
   go_enter Tryd.func41, Tryd.ntmps41
   go_wp2_with (first | ((with_reducible refine gate_callee (f := 47) rfl ?_); refine goesL_ (some 12) rfl rfl Tryd.func47 (by kernel_rfl) rfl #[.string (⟨#[48, 49, 50, 51, 52, 53, 54, 55, 56, 57, 65, 66, 67, 68, 69, 70]⟩ : ByteArray), .int .u8 ((a0 - 32) % 256)] rfl (by (try simp only [List.map_toArray, List.map_cons, List.map_nil]); first | done | rfl | (simp only [List.length_drop, List.length_take]; rfl)) ?_; (with_reducible refine (strings_IndexByte.calls (⟨#[48, 49, 50, 51, 52, 53, 54, 55, 56, 57, 65, 66, 67, 68, 69, 70]⟩ : ByteArray) ((a0 - 32) % 256) t116 _ A4.out).mono ?_); rintro e w' ⟨rfl, ⟨nd, rfl⟩⟩; refine ⟨_, rfl, ?_⟩))
   go_ret
   exact ⟨by first | rfl | (simp; done) | (simp [*]; done) | (simp [ne_nil_B, eq_nil_B]; done), by repeat (first | exact Drawn0.refl _ | apply Drawn0.step)⟩
  ·rw [if_neg c3] at H
   have c3b0 : decide (a0 ≤ 102) = false := decide_eq_false c3
   clear c3
   replace H := Option.bind_eq_some_iff.mp H
   obtain ⟨t117, A50, H⟩ := H
   (try dsimp only at H)
   have A5 := Aside0.mk A50
   clear A50
   obtain rfl := Option.some.inj H
   go_enter Tryd.func41, Tryd.ntmps41
   go_wp2_with (first | ((with_reducible refine gate_callee (f := 47) rfl ?_); refine goesL_ (some 12) rfl rfl Tryd.func47 (by kernel_rfl) rfl #[.string (⟨#[48, 49, 50, 51, 52, 53, 54, 55, 56, 57, 65, 66, 67, 68, 69, 70]⟩ : ByteArray), .int .u8 a0] rfl (by (try simp only [List.map_toArray, List.map_cons, List.map_nil]); first | done | rfl | (simp only [List.length_drop, List.length_take]; rfl)) ?_; (with_reducible refine (strings_IndexByte.calls (⟨#[48, 49, 50, 51, 52, 53, 54, 55, 56, 57, 65, 66, 67, 68, 69, 70]⟩ : ByteArray) a0 t117 _ A5.out).mono ?_); rintro e w' ⟨rfl, ⟨nd, rfl⟩⟩; refine ⟨_, rfl, ?_⟩))
   go_ret
   exact ⟨by first | rfl | (simp; done) | (simp [*]; done) | (simp [ne_nil_B, eq_nil_B]; done), by repeat (first | exact Drawn0.refl _ | apply Drawn0.step)⟩
 ·rw [if_neg c2] at H
  have c2b0 : decide (97 ≤ a0) = false := decide_eq_false c2
  clear c2
  replace H := Option.bind_eq_some_iff.mp H
  obtain ⟨t118, A60, H⟩ := H
  (try dsimp only at H)
  have A6 := Aside0.mk A60
  clear A60
  obtain rfl := Option.some.inj H
  go_enter Tryd.func41, Tryd.ntmps41
  go_wp2_with (first | ((with_reducible refine gate_callee (f := 47) rfl ?_); refine goesL_ (some 12) rfl rfl Tryd.func47 (by kernel_rfl) rfl #[.string (⟨#[48, 49, 50, 51, 52, 53, 54, 55, 56, 57, 65, 66, 67, 68, 69, 70]⟩ : ByteArray), .int .u8 a0] rfl (by (try simp only [List.map_toArray, List.map_cons, List.map_nil]); first | done | rfl | (simp only [List.length_drop, List.length_take]; rfl)) ?_; (with_reducible refine (strings_IndexByte.calls (⟨#[48, 49, 50, 51, 52, 53, 54, 55, 56, 57, 65, 66, 67, 68, 69, 70]⟩ : ByteArray) a0 t118 _ A6.out).mono ?_); rintro e w' ⟨rfl, ⟨nd, rfl⟩⟩; refine ⟨_, rfl, ?_⟩))
  go_ret
  exact ⟨by first | rfl | (simp; done) | (simp [*]; done) | (simp [ne_nil_B, eq_nil_B]; done), by repeat (first | exact Drawn0.refl _ | apply Drawn0.step)⟩
end Go.Proofs.YtgkgljendffhlaaDoor.P
