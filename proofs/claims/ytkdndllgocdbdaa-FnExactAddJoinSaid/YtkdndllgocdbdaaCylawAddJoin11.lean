import Derived.Test.YtkdndllgocdbdaaCylawAddJoin2
import Derived.Test.YtkdndllgocdbdaaCylawAddJoin10
namespace Go.Proofs.Ytkdndllgocdbdaa.C
open Go.RowKit Go.Proofs.YtkdndllgocdbdaaW Go.Proofs.YtkdndllgocdbdaaW.PrintWords Go.Proofs.Ytkdndllgocdbdaa.U
set_option maxHeartbeats 1000000
set_option maxRecDepth 100000
set_option linter.unusedVariables false
set_option linter.unusedSimpArgs false
theorem slices_IndexFunc_Frame (A : Option Addr) (c : Nat) (l : List Frame) (w : World) (h : Kd.C kFrame w A l.length l) : Calls Try.prog 97 #[.slice A l.length c, .func (.func 95) #[] #[]] w fun e w' => e = .returned (.int .i64 (idxB (fun x => !okEv x) l)) ∧ Below w.heap.size w w' := by
  have H := Aside0.mk h
  have hl : l.length ≤ 9223372036854775807 := h.2.1
  clear h
  go_enter Try.func97, Try.ntmps97
  go_wp2
  go_loopw [8] (fun i wr => ∃ k : Nat, k ≤ l.length ∧ i = .int .i64 k ∧ Aside0 (noneTo (fun x => !okEv x) l k) ∧ Aside0 (Below w.heap.size w wr)) (fun i _ => l.length - (intOf i).toNat)
  case atStart => exact ⟨0, Nat.zero_le _, rfl, ⟨noneTo_zero _ _⟩, ⟨by go_grown⟩⟩
  case round =>
    obtain ⟨k, hk, rfl, HN, HB⟩ := hrel
    by_cases hlt : k < l.length
    · obtain ⟨x, hx⟩ := el hlt
      obtain ⟨ad, rfl, C0⟩ := at_Frame (Kd.C_below H.out HB.out) hx.out
      have k0 : (0 : Int) ≤ (k : Int) := Int.natCast_nonneg _
      have k1 : (k : Int) < (l.length : Int) := by omega
      have cF := impl_areEvents_1 x
      have HV := Aside0.mk (rfl : (!okEv x) = !okEv x)
      generalize hv : (!okEv x) = bb at cF
      cases bb
      · go_wp2_with (go_at_call 95; refine (cF _).mono ?_; rintro e w1 ⟨rfl, hb⟩)
        go_roundw
        case rel => exact ⟨k + 1, by omega, by go_num, ⟨noneTo_succ HN.out hx.out hv⟩, ⟨below_step HB.out hb⟩⟩
        case measure => simp [intOf]; omega
      · go_wp2_with (go_at_call 95; refine (cF _).mono ?_; rintro e w1 ⟨rfl, hb⟩)
        go_ret
        exact ⟨by rw [idxB_hit HN.out hx.out hv]; rfl, below_step HB.out hb⟩
    · obtain rfl : k = l.length := by omega
      go_wp2
      go_ret
      exact ⟨by rw [idxB_none HN.out]; rfl, HB.out⟩
end Go.Proofs.Ytkdndllgocdbdaa.C
