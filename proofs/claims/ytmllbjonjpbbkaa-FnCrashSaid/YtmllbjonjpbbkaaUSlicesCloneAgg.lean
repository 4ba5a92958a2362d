import Derived.Test.YtmllbjonjpbbkaaUp
import Derived.Test.YtmllbjonjpbbkaaPPl
namespace Go.Proofs.Ytmllbjonjpbbkaa.C
open Go.RowKit Go.Proofs.YtmllbjonjpbbkaaW Go.Proofs.YtmllbjonjpbbkaaW.PrintWords Go.Proofs.Ytmllbjonjpbbkaa.U
set_option maxHeartbeats 1000000
set_option maxRecDepth 100000
set_option linter.unusedVariables false
set_option linter.unusedSimpArgs false
theorem slices_Clone_Agg (A : Option Addr) (c : Nat) (l : List Agg) (w : World) (h : Kd.C kAgg w A l.length l) (hn : l.length ≤ 1000000000) : Calls Try.prog 84 #[.slice A l.length c] w fun e w' => ∃ Ao co, e = .returned (.slice Ao l.length co) ∧ kAgg.R 92 w' w.heap.size (fun _ => True) (.slice Ao l.length co) l ∧ Below w.heap.size w w' := by
  have H := Aside0.mk h
  clear h
  rcases A with _ | ad
  · have h0 : l = [] := by
      rcases l with _ | ⟨x, r⟩
      · rfl
      · obtain ⟨ad, e, _⟩ := H.out.2.2 (by simp)
        cases e
    subst h0
    have he := fun w : World => Lib.run_eql_slice_nil w _ _ none 0 c 0 0 Try.underlying47
    go_enter Try.func84, Try.ntmps84
    go_wp2
    go_ret
    exact ⟨none, 0, rfl, ⟨fun k hk => by (first | trivial | cases hk), [], ⟨by simp, .inl ⟨rfl, rfl⟩⟩, Reps.none _ _⟩, by go_grown⟩
  · have he := fun w : World => Lib.run_eql_slice_nil w _ _ (some ad) l.length c 0 0 Try.underlying47
    go_enter Try.func84, Try.ntmps84
    go_wp2_with (at_builtin; refine Kd.R_append_rows kAgg (w0 := w) w.heap.size rfl (.tmp 5) (.tmp 6) 47 92 _ 48 rfl Try.underlying47 infoAgg rfl (by decide) (by omega) _ ([]) l _ _ _ (fun _ => True) (fun _ => False) rfl rfl ?aO ?aR (fun _ _ h => h) (fun _ h => h.elim) (fun _ _ => trivial) ?aB ?aS ?hl ?_; (case aO => exact (R_empty _ _ _ (by simp) trivial)); (case aR => exact ((Kd.C_below H.out (by go_grown)))); (case aB => exact ((by go_grown))); (case aS => first | (simp; done) | (simp; omega) | exact (Below.size ((by go_grown)))); (case hl => first | omega | (simp; omega)); intro v1 w1 ho1 hb1 hg1 hat1)
    go_ret
    obtain ⟨Ao, co, rfl⟩ := Kd.R_slice ho1
    exact ⟨Ao, co, rfl, ho1, hb1⟩
end Go.Proofs.Ytmllbjonjpbbkaa.C
