import Derived.Test.YtjdncnajedglgaaDoorUp
import Derived.Lib.ItoaNum
import Derived.Test.YtjdncnajedglgaaDoorUAxstr
import Derived.Test.YtjdncnajedglgaaDoorUAxb
namespace Go.Proofs.YtjdncnajedglgaaDoor.C
open Go.RowKit Go.Proofs.YtjdncnajedglgaaDoorW Go.Proofs.YtjdncnajedglgaaDoorW.PrintWords Go.Proofs.YtjdncnajedglgaaDoor.U
set_option maxHeartbeats 1000000
set_option maxRecDepth 100000
set_option linter.unusedVariables false
set_option linter.unusedSimpArgs false
/-! Numbers as texts. -/
def strL (l : List UInt8) : ByteArray := ⟨l.toArray⟩
theorem strL_app (a b : List UInt8) : strL a ++ strL b = strL (a ++ b) := by
  refine ByteArray.ext ?_
  rw [ByteArray.data_append]
  simp [strL]
theorem strL_size (a : List UInt8) : (strL a).size = a.length := by simp [strL, ByteArray.size]
theorem strL_nums (xs : List Int) : strOfNums xs = strL (xs.map fun n => UInt8.ofNat n.toNat) := rfl
def zdig (u : Nat) : List UInt8 := if u = 0 then [] else Lib.decDigits u
theorem zdig_step {u : Nat} (h : 0 < u) : zdig u = zdig (u / 10) ++ [UInt8.ofNat (48 + u % 10)] := by
  unfold zdig
  rw [if_neg (by omega), Lib.decDigits]
  by_cases h1 : u < 10
  · rw [dif_pos h1, if_pos (by omega), Nat.mod_eq_of_lt h1]
    rfl
  · rw [dif_neg h1, if_neg (by omega)]
theorem zdig_pos {u : Nat} (h : 0 < u) : zdig u = Lib.decDigits u := by rw [zdig, if_neg (by omega)]
def numT (n : Int) : List UInt8 := Lib.itoa n
theorem dec_len (u : Nat) (h : u < 10000000000000000000) : (Lib.decDigits u).length ≤ 20 := by
  rw [Lib.decDigits_length]
  have h1 := Lib.nDigits_pos u
  rcases Nat.lt_or_ge (Lib.nDigits u) 21 with h2 | h2
  · omega
  · exfalso
    have : 10 ^ 19 ≤ u := by
      by_cases h3 : u < 10
      · rw [Lib.nDigits_small h3] at h2
        omega
      · have key : ∀ (k u : Nat), k + 1 < Lib.nDigits u → 10 ^ (k + 1) ≤ u := by
          intro k
          induction k with
          | zero =>
            intro u hu
            by_cases h4 : u < 10
            · rw [Lib.nDigits_small h4] at hu
              omega
            · omega
          | succ k ih =>
            intro u hu
            by_cases h4 : u < 10
            · rw [Lib.nDigits_small h4] at hu
              omega
            · rw [Lib.nDigits_big h4] at hu
              have := ih (u / 10) (by omega)
              rw [Nat.pow_succ]
              omega
        exact key 18 u (by omega)
    omega
theorem numT_len {n : Int} (h : -9223372036854775808 ≤ n ∧ n ≤ 9223372036854775807) : (numT n).length ≤ 21 := by
  unfold numT Lib.itoa
  split
  · have := dec_len n.natAbs (by omega)
    rw [List.length_cons]
    omega
  · have := dec_len n.toNat (by omega)
    omega
theorem eqS {a b : ByteArray} (h : a = b) : some (AV.o (.c (.string a))) = some (AV.o (.c (.string b))) := by rw [h]
theorem one_app (x : Int) (u : Nat) (h : x.toNat = 48 + u % 10) (acc : List UInt8) : strOfNums [x] ++ strL acc = strL (UInt8.ofNat (48 + u % 10) :: acc) := by
  rw [strL_nums, strL_app, List.map_cons, List.map_nil, h]
  rfl
theorem zdig_len {u : Nat} (h : u < 10000000000000000000) : (zdig u).length ≤ 20 := by
  unfold zdig
  split
  · exact Nat.zero_le _
  · exact dec_len u h
theorem u8_small {x : Int} (h : 0 ≤ x ∧ x ≤ 255) : IntKind.u8.wrap x = x := by rw [IntKind.wrap_u8]; omega
theorem i64_small {x : Int} (h : -9223372036854775808 ≤ x ∧ x ≤ 9223372036854775807) : IntKind.i64.wrap x = x := by rw [IntKind.wrap_i64]; omega
theorem neg_rem (u : Nat) : (-(u : Int)).tmod 10 = -((u % 10 : Nat) : Int) := by
  rw [Int.neg_tmod, Int.tmod_eq_emod_of_nonneg (Int.natCast_nonneg _)]
  rfl
theorem neg_quo (u : Nat) : (-(u : Int)).tdiv 10 = -((u / 10 : Nat) : Int) := by
  rw [Int.neg_tdiv, Int.tdiv_eq_ediv_of_nonneg (Int.natCast_nonneg _)]
  rfl
end Go.Proofs.YtjdncnajedglgaaDoor.C
