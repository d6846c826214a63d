/-
The law SignDigits: noughts ahead change nothing; a digit more makes ten times the number and it, up to Far.
-/
import Derived.Test.YtnbgffndhkgdpaaDoorPureDec
import Derived.Test.YtnbgffndhkgdpaaDoorPureAnchor01
import Derived.Test.YtnbgffndhkgdpaaDoorPx8
namespace Go.Proofs.YtnbgffndhkgdpaaDoor.Pure
open Go.RowKit Go.Proofs.YtnbgffndhkgdpaaDoor.P Go.Proofs.YtnbgffndhkgdpaaDoorW.PrintWords Go.Proofs.YtnbgffndhkgdpaaDoorW.PrintLast Go.Proofs.YtnbgffndhkgdpaaDoorW.PrintMore
set_option linter.unusedVariables false
set_option linter.unusedSimpArgs false

theorem digits_ev (n : Nat) (hn : n ≤ 4611686018427387904) : Ev (fun k => pantrylaw01_digits.f k (n : Int)) ⟨(decN n).toArray⟩ := by
  induction n using Nat.strongRecOn with
  | _ n ih =>
    by_cases h : n < 10
    · refine ev_one fun k => ?_
      simp only [pantrylaw01_digits.f]
      rw [if_pos (by omega), wrap_id (by omega) (by omega), Int.emod_eq_of_lt (by omega) (by omega), str_one _ (by omega) (by omega), decN_lo n h, show (48 + (n : Int)).toNat = 48 + n from by omega]
    · have hd : Int.tdiv (n : Int) 10 = ((n / 10 : Nat) : Int) := by rw [Int.tdiv_eq_ediv_of_nonneg (by omega)]; omega
      have hm : Int.tmod (n : Int) 10 = ((n % 10 : Nat) : Int) := by rw [Int.tmod_eq_emod_of_nonneg (by omega)]; omega
      have hI := ih (n / 10) (by omega) (by omega)
      have hl := decN_len (n / 10)
      have hs1 : (⟨(decN (n / 10)).toArray⟩ : ByteArray).size = (decN (n / 10)).length := mk_size _
      have he : wrap64 (48 + ((n % 10 : Nat) : Int)) % 256 = 48 + ((n % 10 : Nat) : Int) := by rw [wrap_id (by omega) (by omega), Int.emod_eq_of_lt (by omega) (by omega)]
      refine ev_to (fun k => (pantrylaw01_digits.f k ((n / 10 : Nat) : Int)).bind fun t192 => (if t192.size + (strOfNums [48 + ((n % 10 : Nat) : Int)]).size ≤ 9223372036854775807 then (some (t192 ++ (strOfNums [48 + ((n % 10 : Nat) : Int)]))) else (none))) ?_ fun k => by
        simp only [pantrylaw01_digits.f]
        rw [if_neg (by omega), hd, hm, wrap_id (by omega) (by omega), he]; rfl
      refine ev_bind hI ?_
      refine ev_now fun k => ?_
      rw [if_pos (by rw [hs1, strOfNums_size]; simp; omega), str_one _ (by omega) (by omega), show (48 + ((n % 10 : Nat) : Int)).toNat = 48 + n % 10 from by omega]
      refine congrArg some (ba_ext ?_)
      rw [data_app, mk_data, mk_data, decN_hi n h]
theorem zeros_loop (n d : Nat) (hn : n ≤ 1099511627776) (hd : d ≤ 9) (a1 : Nat) (ha : a1 ≤ 50) (m : Nat) : ∀ (i : Nat) (x : ByteArray), i + m = a1 → x.data.toList = List.replicate i 48 ++ decN n →
    Ev (fun k => pantrylaw01_SignDigits.l0 k (n : Int) (d : Int) x (a1 : Int) (i : Int)) true := by
  have hdl := decN_len2 n 13 (by omega) (by omega)
  induction m with
  | zero =>
    intro i x hi hx
    have hf : far = 2147483648 := rfl
    have hxs : x.size = i + (decN n).length := by rw [sz, hx]; simp
    obtain ⟨g1, g2⟩ := dig_of d (by omega)
    have he : wrap64 (48 + (d : Int)) % 256 = 48 + (d : Int) := by rw [wrap_id (by omega) (by omega), Int.emod_eq_of_lt (by omega) (by omega)]
    have hy : strOfNums [48 + (d : Int)] = ⟨#[UInt8.ofNat (48 + d)]⟩ := by rw [str_one _ (by omega) (by omega), show (48 + (d : Int)).toNat = 48 + d from by omega]
    have hyd : (x ++ (⟨#[UInt8.ofNat (48 + d)]⟩ : ByteArray)).data.toList = List.replicate i 48 ++ decN n ++ [UInt8.ofNat (48 + d)] := by rw [data_app, hx]
    have hys : (x ++ (⟨#[UInt8.ofNat (48 + d)]⟩ : ByteArray)).size = x.size + 1 := by rw [sz, hyd, hxs]; simp; omega
    have n1 : numS x.data.toList = (mn (n : Int) far, true) := by
      unfold numS; rw [hx, numL_zeros, numL_dec]
      have := decN_pos n
      cases h : decN n with
      | nil => rw [h] at this; simp at this
      | cons => simp
    have n2 : numS (x ++ (⟨#[UInt8.ofNat (48 + d)]⟩ : ByteArray)).data.toList = (mn (10 * (n : Int) + d) far, true) := by
      unfold numS; rw [hyd, List.append_assoc, numL_zeros, numL_app, numL_dec]
      show (match numL (mn (n : Int) far) [UInt8.ofNat (48 + d)] with | some n => _ | none => _) = _
      rw [numL, if_pos g1, g2, numL]
      simp only
      congr 1
      · unfold mn; split <;> split <;> split <;> omega
      · simp
    have N1 := number_sign x (by omega)
    have N2 := number_sign (x ++ (⟨#[UInt8.ofNat (48 + d)]⟩ : ByteArray)) (by omega)
    rw [n1] at N1
    rw [n2] at N2
    refine ev_to (fun k => (sign_Number.f k x).bind fun bt198 => ((sign_Number.f k (x ++ (⟨#[UInt8.ofNat (48 + d)]⟩ : ByteArray))).bind fun bt203 => (if bt198.2 = true then (if bt203.2 = true then (if bt198.1 = (mn (n : Int) 2147483648) then (some (bt203.1 == (mn (wrap64 ((wrap64 (10 * (n : Int))) + (d : Int))) 2147483648))) else (some false)) else (some false)) else (some false)))) ?_ fun k => by
      simp only [pantrylaw01_SignDigits.l0]; rw [if_neg (by omega), he]
      have hcnd : x.size + (⟨#[UInt8.ofNat (48 + d)]⟩ : ByteArray).size ≤ 9223372036854775807 := by have : (⟨#[UInt8.ofNat (48 + d)]⟩ : ByteArray).size = 1 := rfl; omega
      simp only [Option.bind_some, hy, if_pos hcnd]
    refine ev_bind N1 ?_
    refine ev_bind N2 ?_
    refine ev_now fun k => ?_
    rw [if_pos rfl, if_pos rfl, if_pos (show (mn (n : Int) far, true).1 = mn (n : Int) 2147483648 from rfl), wrap_id (x := 10 * (n : Int)) (by omega) (by omega), wrap_id (by omega) (by omega)]
    simp [far]
  | succ m ih =>
    intro i x hi hx
    have hxs : x.size = i + (decN n).length := by rw [sz, hx]; simp
    have hw : wrap64 ((i : Int) + 1) = ((i + 1 : Nat) : Int) := by rw [wrap_id (by omega) (by omega)]; omega
    refine ev_to _ (ih (i + 1) ((⟨#[48]⟩ : ByteArray) ++ x) (by omega) (by rw [data_app, hx, List.replicate_succ]; rfl)) fun k => ?_
    simp only [pantrylaw01_SignDigits.l0]; rw [if_pos (by omega), if_pos (by omega), hw]
theorem SignDigits : ∀ (a0 : Int) (a1 : Int) (a2 : Int), (Lit.int .i64 a0).wf = true → (Lit.int .i64 a1).wf = true → (Lit.int .i64 a2).wf = true → ∃ k, pantrylaw01_SignDigits.f k a0 a1 a2 = some true := by
  intro a0 a1 a2 _ _ _
  refine Ev.rounds ?_
  unfold pantrylaw01_SignDigits.f
  refine ev_bind anchor_ev ?_
  have hj : Ev (fun k => pantrylaw01_SignDigits.j0 k a0 a1 a2 true) true := ev_one fun k => by simp only [pantrylaw01_SignDigits.j0]; rw [if_pos trivial]
  by_cases h1 : a0 < 0
  · exact ev_eq _ hj fun k => by rw [if_pos rfl, if_pos h1]
  by_cases h2 : a0 > 1099511627776
  · exact ev_eq _ hj fun k => by rw [if_pos rfl, if_neg h1, if_pos h2]
  by_cases h3 : a1 < 0
  · exact ev_eq _ hj fun k => by rw [if_pos rfl, if_neg h1, if_neg h2, if_pos h3]
  by_cases h4 : a1 > 50
  · exact ev_eq _ hj fun k => by rw [if_pos rfl, if_neg h1, if_neg h2, if_neg h3, if_pos h4]
  by_cases h5 : a2 < 0
  · exact ev_eq _ hj fun k => by rw [if_pos rfl, if_neg h1, if_neg h2, if_neg h3, if_neg h4, if_pos h5]
  by_cases h6 : a2 > 9
  · exact ev_eq _ hj fun k => by rw [if_pos rfl, if_neg h1, if_neg h2, if_neg h3, if_neg h4, if_neg h5, decide_eq_true h6]
  · refine ev_eq (fun k => pantrylaw01_SignDigits.j0 k a0 a1 a2 false) ?_ fun k => by rw [if_pos rfl, if_neg h1, if_neg h2, if_neg h3, if_neg h4, if_neg h5, decide_eq_false h6]
    obtain ⟨n, rfl⟩ := Int.eq_ofNat_of_zero_le (show 0 ≤ a0 by omega)
    obtain ⟨z, rfl⟩ := Int.eq_ofNat_of_zero_le (show 0 ≤ a1 by omega)
    obtain ⟨d, rfl⟩ := Int.eq_ofNat_of_zero_le (show 0 ≤ a2 by omega)
    refine ev_to (fun k => (pantrylaw01_digits.f k (n : Int)).bind fun t197 => (pantrylaw01_SignDigits.l0 k (n : Int) (d : Int) t197 (z : Int) 0)) ?_ fun k => by
      simp only [pantrylaw01_SignDigits.j0]; rw [if_neg (by simp)]
    refine ev_bind (digits_ev n (by omega)) ?_
    exact zeros_loop n d (by omega) (by omega) z (by omega) z 0 _ (by omega) (by simp)

end Go.Proofs.YtnbgffndhkgdpaaDoor.Pure
