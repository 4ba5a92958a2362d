import Derived.Test.YtkdndllgocdbdaaCylawAddJoin2
namespace Go.Proofs.Ytkdndllgocdbdaa.C
open Go.RowKit Go.Proofs.YtkdndllgocdbdaaW Go.Proofs.YtkdndllgocdbdaaW.PrintWords Go.Proofs.Ytkdndllgocdbdaa.U
set_option maxHeartbeats 1000000
set_option maxRecDepth 100000
set_option linter.unusedVariables false
set_option linter.unusedSimpArgs false
def okEv (f : Frame) : Bool := okFrame f && decide (f.kind = 1)
def okEvs (l : List Frame) : Bool := decide (l.length ≤ 40) && l.all okEv
def okJoin (l l' : List Frame) (m : Int) : Bool := okEvs l && (okEvs l' && inB m (-1) 1000000)
def meetB (a b : Frame) (c : Int) : Bool := decide (a.key = b.key) && decide ((if wrap64 (a.time - b.time) < 0 then wrap64 (- wrap64 (a.time - b.time)) else wrap64 (a.time - b.time)) ≤ c)
def pairB (x y : Frame) : Pair := ⟨x.key, x.time, y.time, x.value, y.value⟩
def pairOn (left : Bool) (f x : Frame) : Pair := if left then pairB f x else pairB x f
theorem impl_within (n a b : Int) (w : World) : Calls Try.prog 96 #[.int .i64 n, .int .i64 a, .int .i64 b] w fun e w' => e = .returned (.bool (inB n a b)) ∧ w = w' := by
  go_enter Try.func96, Try.ntmps96
  go_wp2
  all_goals (go_ret; exact ⟨by first | rfl | (simp [inB, *]; done) | (simp [inB, *]; omega) | (simp_all [inB]; done) | (simp_all [inB]; omega), rfl⟩)
theorem slices_Clone_Frame (A : Option Addr) (c : Nat) (l : List Frame) (w : World) (h : Kd.C kFrame w A l.length l) (hn : l.length ≤ 1000000000) : Calls Try.prog 99 #[.slice A l.length c] w fun e w' => ∃ Ao co, e = .returned (.slice Ao l.length co) ∧ kFrame.R 56 w' w.heap.size (fun _ => True) (.slice Ao l.length co) l ∧ Below w.heap.size w w' := by
  have H := Aside0.mk h
  clear h
  rcases A with _ | ad
  · have h0 : l = [] := by
      rcases l with _ | ⟨x, r⟩
      · rfl
      · obtain ⟨ad, e, _⟩ := H.out.2.2 (by simp)
        cases e
    subst h0
    have he := fun w : World => Lib.run_eql_slice_nil w _ _ none 0 c 0 0 Try.underlying27
    go_enter Try.func99, Try.ntmps99
    go_wp2
    go_ret
    exact ⟨none, 0, rfl, ⟨fun k hk => by (first | trivial | cases hk), [], ⟨by simp, .inl ⟨rfl, rfl⟩⟩, Reps.none _ _⟩, by go_grown⟩
  · have he := fun w : World => Lib.run_eql_slice_nil w _ _ (some ad) l.length c 0 0 Try.underlying27
    go_enter Try.func99, Try.ntmps99
    go_wp2_with (at_builtin; refine Kd.R_append_rows kFrame (w0 := w) w.heap.size rfl (.tmp 5) (.tmp 6) 27 56 _ 32 rfl Try.underlying27 infoFrame rfl (by decide) (by omega) _ ([]) l _ _ _ (fun _ => True) (fun _ => False) rfl rfl ?aO ?aR (fun _ _ h => h) (fun _ h => h.elim) (fun _ _ => trivial) ?aB ?aS ?hl ?_; (case aO => exact (R_empty _ _ _ (by simp) trivial)); (case aR => exact ((Kd.C_below H.out (by go_grown)))); (case aB => exact ((by go_grown))); (case aS => first | (simp; done) | (simp; omega) | exact (Below.size ((by go_grown)))); (case hl => first | omega | (simp; omega)); intro v1 w1 ho1 hb1 hg1 hat1)
    go_ret
    obtain ⟨Ao, co, rfl⟩ := Kd.R_slice ho1
    exact ⟨Ao, co, rfl, ho1, hb1⟩
theorem spec_l01In (n a b : Int) (w : World) : Calls Try.prog 64 #[.int .i64 n, .int .i64 a, .int .i64 b] w fun e w' => e = .returned (.bool (inB n a b)) ∧ w = w' := by
  go_enter Try.func64, Try.ntmps64
  go_wp2
  all_goals (go_ret; exact ⟨by first | rfl | (simp [inB, *]; done) | (simp [inB, *]; omega) | (simp_all [inB]; done) | (simp_all [inB]; omega), rfl⟩)
end Go.Proofs.Ytkdndllgocdbdaa.C
