import Derived.Test.YtkdndllgocdbdaaCylawAddJoin2
import Derived.Test.YtkdndllgocdbdaaCylawAddJoin6
import Derived.Test.YtkdndllgocdbdaaCylawAddJoin8
namespace Go.Proofs.Ytkdndllgocdbdaa.C
open Go.RowKit Go.Proofs.YtkdndllgocdbdaaW Go.Proofs.YtkdndllgocdbdaaW.PrintWords Go.Proofs.Ytkdndllgocdbdaa.U
set_option maxHeartbeats 1000000
set_option maxRecDepth 100000
set_option linter.unusedVariables false
set_option linter.unusedSimpArgs false
theorem impl_isEvent (x : Frame) (w : World) : Calls Try.prog 77 #[.agg #[.int .i64 x.kind, .int .i64 x.key, .int .i64 x.time, .int .i64 x.value]] w fun e w' => e = .returned (.bool (okEv x)) ∧ Below w.heap.size w w' := by
  obtain ⟨k, a, b, c⟩ := x
  have cF := impl_FrameOk ⟨k, a, b, c⟩
  rw [okEv]
  dsimp only at cF ⊢
  by_cases hk : k = 1
  · subst hk
    go_enter Try.func77, Try.ntmps77
    go_wp2_with (go_at_call 83; refine (cF _).mono ?_; rintro e w1 ⟨rfl, hb⟩)
    go_ret; exact ⟨ret_bool (by simp), below_step (below_alloc (Below.refl _ _) _) hb⟩
  · go_enter Try.func77, Try.ntmps77
    go_wp2
    go_ret; refine ⟨ret_bool ?_, by go_grown⟩; go_light; simp [hk]
theorem all_noneTo {α : Type} {p : α → Bool} {l : List α} (h : noneTo (fun x => !p x) l l.length) : l.all p = true := List.all_eq_true.2 (fun x hx => by
  obtain ⟨i, hi, rfl⟩ := List.mem_iff_getElem.1 hx
  have := h i hi _ (List.getElem?_eq_getElem hi)
  simpa using this)
theorem all_hit {α : Type} {p : α → Bool} {l : List α} {k : Nat} {x : α} (hx : l[k]? = some x) (hp : p x = false) : l.all p = false := by
  have hm := List.mem_of_getElem? hx
  rw [← Bool.not_eq_true, List.all_eq_true]
  intro h
  rw [h x hm] at hp
  cases hp
theorem spec_l12Events (A : Option Addr) (c : Nat) (l : List Frame) (w : World) (h : Kd.C kFrame w A l.length l) : Calls Try.prog 55 #[.slice A l.length c] w fun e w' => e = .returned (.bool (okEvs l)) ∧ Below w.heap.size w w' := by
  have hl : l.length ≤ 9223372036854775807 := h.2.1
  have H := Aside0.mk h
  clear h
  rw [okEvs]
  by_cases hlen : l.length ≤ 40
  case neg =>
    have hd : decide (40 < (l.length : Int)) = true := by simp; omega
    go_enter Try.func55, Try.ntmps55
    go_wp2
    go_ret
    exact ⟨ret_bool (by simp [hlen]), by go_grown⟩
  have hd : decide (40 < (l.length : Int)) = false := by simp; omega
  go_enter Try.func55, Try.ntmps55
  go_wp2
  go_loopw [3] (fun i wr => ∃ k : Nat, k ≤ l.length ∧ i = .int .i64 k ∧ Aside0 (noneTo (fun x => !okEv x) l k) ∧ Aside0 (Below w.heap.size w wr)) (fun i _ => l.length - (intOf i).toNat)
  case atStart => exact ⟨0, Nat.zero_le _, rfl, ⟨noneTo_zero _ _⟩, ⟨by go_grown⟩⟩
  case round =>
    obtain ⟨k, hk, rfl, HN, HB⟩ := hrel
    by_cases hlt : k < l.length
    · obtain ⟨x, hx⟩ := el hlt
      obtain ⟨ad, rfl, C0⟩ := at_Frame (Kd.C_below H.out HB.out) hx.out
      have k0 : (0 : Int) ≤ (k : Int) := Int.natCast_nonneg _
      have k1 : (k : Int) < (l.length : Int) := by omega
      have cF := spec_l12Event x
      generalize hv : okEv x = bb at cF
      cases bb
      · go_wp2_with (go_at_call 76; refine (cF _).mono ?_; rintro e w1 ⟨rfl, hb⟩)
        go_ret
        exact ⟨ret_bool (by rw [all_hit hx.out hv]; simp), below_step HB.out hb⟩
      · go_wp2_with (go_at_call 76; refine (cF _).mono ?_; rintro e w1 ⟨rfl, hb⟩)
        go_roundw
        case rel => exact ⟨k + 1, by omega, by go_num, ⟨noneTo_succ HN.out hx.out (by simp [hv])⟩, ⟨below_step HB.out hb⟩⟩
        case measure => simp [intOf]; omega
    · obtain rfl : k = l.length := by omega
      go_wp2
      go_ret
      exact ⟨ret_bool (by rw [all_noneTo HN.out]; simp [hlen]), HB.out⟩
end Go.Proofs.Ytkdndllgocdbdaa.C
