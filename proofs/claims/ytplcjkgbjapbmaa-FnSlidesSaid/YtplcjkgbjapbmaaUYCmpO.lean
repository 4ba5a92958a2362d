import Derived.Test.YtplcjkgbjapbmaaUp
import Derived.Test.YtplcjkgbjapbmaaPSb
namespace Go.Proofs.Ytplcjkgbjapbmaa.C
open Go.RowKit Go.Proofs.YtplcjkgbjapbmaaW Go.Proofs.YtplcjkgbjapbmaaW.PrintWords Go.Proofs.Ytplcjkgbjapbmaa.U
set_option maxHeartbeats 1000000
set_option maxRecDepth 100000
set_option linter.unusedVariables false
set_option linter.unusedSimpArgs false
theorem cmp_NaN (a : Int) (w : World) : Calls Try.prog 71 #[.int .i64 a] w fun e w' => e = .returned (.bool false) ∧ w' = w := by
  go_enter Try.func71, Try.ntmps71
  go_wp2
  go_ret
  exact ⟨by simp, rfl⟩
theorem cmp_Compare (a b : Int) (w : World) : Calls Try.prog 48 #[.int .i64 a, .int .i64 b] w fun e w' => e = .returned (.int .i64 (cmpJ a b)) ∧ w' = w := by
  have hv : ∃ r, r = cmpJ a b := ⟨_, rfl⟩
  unfold cmpJ at hv
  by_cases h1 : a < b
  · rw [show cmpJ a b = -1 by unfold cmpJ; rw [if_pos h1]]
    have d1 : decide (a < b) = true := by simp [h1]
    clear hv
    go_enter Try.func48, Try.ntmps48
    go_wp2_with (go_at_call 71; refine (cmp_NaN _ _).mono ?_; rintro e w' ⟨rfl, rfl⟩)
    all_goals go_ret
    all_goals exact ⟨by simp, rfl⟩
  · by_cases h2 : b < a
    · rw [show cmpJ a b = 1 by unfold cmpJ; rw [if_neg h1, if_pos h2]]
      have d1 : decide (a < b) = false := by simp; omega
      have d2 : decide (b < a) = true := by simp [h2]
      clear hv
      go_enter Try.func48, Try.ntmps48
      go_wp2_with (go_at_call 71; refine (cmp_NaN _ _).mono ?_; rintro e w' ⟨rfl, rfl⟩)
      all_goals go_ret
      all_goals exact ⟨by simp, rfl⟩
    · rw [show cmpJ a b = 0 by unfold cmpJ; rw [if_neg h1, if_neg h2]]
      have d1 : decide (a < b) = false := by simp; omega
      have d2 : decide (b < a) = false := by simp; omega
      clear hv
      go_enter Try.func48, Try.ntmps48
      go_wp2_with (go_at_call 71; refine (cmp_NaN _ _).mono ?_; rintro e w' ⟨rfl, rfl⟩)
      all_goals go_ret
      all_goals exact ⟨by simp, rfl⟩
theorem orJ_at {l : List Int} {k : Nat} {x : Int} (hx : l[k]? = some x) : orJ (l.drop k) = if x = 0 then orJ (l.drop (k + 1)) else x := by
  obtain ⟨hk, rfl⟩ := List.getElem?_eq_some_iff.1 hx
  rw [List.drop_eq_getElem_cons hk, orJ]
theorem cmp_Or (A : Option Addr) (c : Nat) (l : List Int) (w : World) (h : Kd.C (Kd.int .i64) w A l.length l) : Calls Try.prog 78 #[.slice A l.length c] w fun e w' => e = .returned (.int .i64 (orJ l)) ∧ w' = w := by
  have H := Aside0.mk h
  have hl : l.length ≤ 9223372036854775807 := h.2.1
  clear h
  go_enter Try.func78, Try.ntmps78
  go_wp2
  go_loopw [8] (fun i wr => ∃ k : Nat, k ≤ l.length ∧ i = .int .i64 k ∧ Aside0 (orJ l = orJ (l.drop k)) ∧ Aside0 (wr = w)) (fun i _ => l.length - (intOf i).toNat)
  case atStart => exact ⟨0, Nat.zero_le _, rfl, ⟨rfl⟩, ⟨rfl⟩⟩
  case round =>
    obtain ⟨k, hk, rfl, HN, HB⟩ := hrel
    obtain rfl := HB.out
    by_cases hlt : k < l.length
    · obtain ⟨x, hx⟩ := el hlt
      obtain ⟨ad, rfl, C0⟩ := int_at H.out hx.out
      have HN2 := Aside0.mk (HN.out.trans (orJ_at hx.out))
      have k1 : (k : Int) < (l.length : Int) := by omega
      by_cases hz : x = 0
      · subst hz
        go_wp2
        go_roundw
        case rel => exact ⟨k + 1, by omega, by go_num, ⟨by have := HN2.out; rwa [if_pos rfl] at this⟩, ⟨by first | trivial | rfl⟩⟩
        case measure => simp [intOf]; omega
      · have hd : (x == 0) = false := by simp [hz]
        go_wp2
        go_ret
        exact ⟨by rw [HN2.out, if_neg hz]; rfl, rfl⟩
    · obtain rfl : k = l.length := by omega
      go_wp2
      go_ret
      exact ⟨by rw [HN.out]; simp [orJ], rfl⟩
end Go.Proofs.Ytplcjkgbjapbmaa.C
