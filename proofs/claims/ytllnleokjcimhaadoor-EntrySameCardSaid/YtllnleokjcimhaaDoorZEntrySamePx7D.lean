import Derived.Test.YtllnleokjcimhaaDoorZEntrySamePx0
import Derived.Test.YtllnleokjcimhaaDoorZEntrySamePx5
import Derived.Test.YtllnleokjcimhaaDoorZEntrySamePx6
namespace Go.Proofs.YtllnleokjcimhaaDoor.P
open Go.RowKit Go.Proofs.YtllnleokjcimhaaDoorW.PrintWords Go.Proofs.YtllnleokjcimhaaDoorW.PrintLast Go.Proofs.YtllnleokjcimhaaDoorW.PrintMore
attribute [local go_sem] max2_int min2_int max_two min_two max_three min_three max_four min_four u8_div16 u8_mod16
set_option linter.unusedVariables false
set_option linter.unusedSimpArgs false
/-! ### entry_Encode: function 13 -/
mutual
def entry_Encode.j0 : Nat → Int → Bool → ByteArray → ByteArray → List ByteArray → Int → Int → Int → List (S53) → List Int → Int → Option (List Int × Int)
 | 0, _, _, _, _, _, _, _, _, _, _, _ => none
 | k + 1, x0, x9, x133000, x133001, x133002, x133003, x133004, x133005, x133006, x133007, x133008 => if x9 = true then (some (([] : List Int), 50)) else ((entry_Entry_Right.f k x133000 x133001 x133002 x133003 x133004 x133005 x133006 x133007 x133008).bind fun t133 => (if t133 = true then ((entry_Entry_Fits.f k x133000 x133001 x133002 x133003 x133004 x133005 x133006 x133007 x133008 x0).bind fun t134 => (if t134 = true then (if x0 = 3 then ((entry_texts.f k ([] : List Int) (([x133001] : List ByteArray))).bind fun t138 => ((entry_put.f k t138 2 (([(x133002.length : Int)] : List Int))).bind fun t144 => ((entry_texts.f k t144 x133002).bind fun t147 => (entry_Encode.j1 k x0 t147 x133000 x133001 x133002 x133003 x133004 x133005 x133006 x133007 x133008)))) else (entry_Encode.j1 k x0 ([] : List Int) x133000 x133001 x133002 x133003 x133004 x133005 x133006 x133007 x133008)) else (some (([] : List Int), 51)))) else (some (([] : List Int), 10))))
def entry_Encode.j1 : Nat → Int → List Int → ByteArray → ByteArray → List ByteArray → Int → Int → Int → List (S53) → List Int → Int → Option (List Int × Int)
 | 0, _, _, _, _, _, _, _, _, _, _, _ => none
 | k + 1, x0, x6, x133000, x133001, x133002, x133003, x133004, x133005, x133006, x133007, x133008 => if x0 > 1 then ((entry_put.f k x6 6 (([x133008] : List Int))).bind fun t153 => (entry_Encode.j2 k x0 t153 x133000 x133001 x133002 x133003 x133004 x133005 x133006 x133007 x133008)) else (entry_Encode.j2 k x0 x6 x133000 x133001 x133002 x133003 x133004 x133005 x133006 x133007 x133008)
def entry_Encode.j2 : Nat → Int → List Int → ByteArray → ByteArray → List ByteArray → Int → Int → Int → List (S53) → List Int → Int → Option (List Int × Int)
 | 0, _, _, _, _, _, _, _, _, _, _, _ => none
 | k + 1, x0, x6, x133000, x133001, x133002, x133003, x133004, x133005, x133006, x133007, x133008 => (entry_texts.f k x6 (([x133000] : List ByteArray))).bind fun t159 => ((entry_put.f k t159 6 (([x133003, x133004, x133005] : List Int))).bind fun t165 => ((entry_put.f k t165 2 (([(x133006.length : Int)] : List Int))).bind fun t171 => (entry_Encode.l0 k x0 t171 x133006 (x133006.length : Int) 0 x133000 x133001 x133002 x133003 x133004 x133005 x133006 x133007 x133008)))
def entry_Encode.l0 : Nat → Int → List Int → List (S53) → Int → Int → ByteArray → ByteArray → List ByteArray → Int → Int → Int → List (S53) → List Int → Int → Option (List Int × Int)
 | 0, _, _, _, _, _, _, _, _, _, _, _, _, _, _ => none
 | k + 1, x0, x6, x66, x67, x68, x133000, x133001, x133002, x133003, x133004, x133005, x133006, x133007, x133008 => if x68 < x67 then (if 0 ≤ x68 then (if x68 < (x66.length : Int) then ((entry_texts.f k x6 (([(rd_T53 x66 x68).f0, (rd_T53 x66 x68).f1] : List ByteArray))).bind fun t179 => (entry_Encode.l0 k x0 t179 x66 x67 (wrap64 (x68 + 1)) x133000 x133001 x133002 x133003 x133004 x133005 x133006 x133007 x133008)) else (none)) else (none)) else ((entry_texts.f k x6 (([strOfNums x133007] : List ByteArray))).bind fun t185 => (if (t185.length : Int) > 3992 then (some (([] : List Int), 23)) else ((entry_put.f k (([69, (x0) % 256] : List Int)) 2 (([(t185.length : Int)] : List Int))).bind fun t194 => ((entry_sum.f k t185).bind fun t197 => ((entry_put.f k t194 4 (([t197] : List Int))).bind fun t201 => (if t201.length + t185.length < 140737488355328 then (some ((t201 ++ t185), 0)) else (none)))))))
end
def entry_Encode.f (k : Nat) (a0 : Int) (a1_0 : ByteArray) (a1_1 : ByteArray) (l1_2 : List ByteArray) (a1_3 : Int) (a1_4 : Int) (a1_5 : Int) (l1_6 : List (S53)) (l1_7 : List Int) (a1_8 : Int) : Option (List Int × Int) := if a0 < 1 then (entry_Encode.j0 k a0 true a1_0 a1_1 l1_2 a1_3 a1_4 a1_5 l1_6 l1_7 a1_8) else (entry_Encode.j0 k a0 (decide (a0 > 3)) a1_0 a1_1 l1_2 a1_3 a1_4 a1_5 l1_6 l1_7 a1_8)
def entry_Encode.T9 : Bool × List (List Nat × List Nat) := (true, [([], []), ([], []), ([1], [1]), ([2], [2]), ([0, 3], [0, 3]), ([], []), ([5], [5]), ([6], [6]), ([7], [7]), ([4, 8, 4], [4, 8]), ([], []), ([10], [10]), ([9, 11, 9], [9, 11]), ([12, 12, 0, 1, 2, 3, 4, 5, 6, 7, 8, 9, 10, 11, 12], [0, 12])])
def entry_Encode.B9 : List Nat := [0, 0, 2, 6, 15, 0, 32, 96, 224, 511, 0, 1024, 4095, 8191]
theorem entry_Encode.tab9 : rtab .any (opsOf Tryd.f13 9) = entry_Encode.T9 := by kernel_rfl
theorem entry_Encode.bits9 : waitsOk entry_Encode.T9.2 entry_Encode.B9 = true := by kernel_rfl
def entry_Encode.T12 : Bool × List (List Nat × List Nat) := (true, [([], []), ([], []), ([1], [1]), ([2], [2]), ([0, 3], [0, 3]), ([], []), ([5], [5]), ([], []), ([7], [7]), ([], []), ([9], [9]), ([6, 8, 10], [6, 8, 10]), ([4, 11, 4], [4, 11]), ([], []), ([13], [13]), ([14], [14]), ([15], [15]), ([12, 16, 12], [12, 16]), ([17, 17, 0, 1, 2, 3, 4, 5, 6, 7, 8, 9, 10, 11, 12, 13, 14, 15, 16, 17], [0, 17])])
def entry_Encode.B12 : List Nat := [0, 0, 2, 6, 15, 0, 32, 0, 128, 0, 512, 2016, 4095, 0, 8192, 24576, 57344, 131071, 262143]
theorem entry_Encode.tab12 : rtab .any (opsOf Tryd.f13 12) = entry_Encode.T12 := by kernel_rfl
theorem entry_Encode.bits12 : waitsOk entry_Encode.T12.2 entry_Encode.B12 = true := by kernel_rfl
end Go.Proofs.YtllnleokjcimhaaDoor.P
