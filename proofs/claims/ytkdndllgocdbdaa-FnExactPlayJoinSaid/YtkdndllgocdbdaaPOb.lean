import Derived.Test.YtkdndllgocdbdaaUp
import Derived.Test.YtkdndllgocdbdaaPPl
namespace Go.Proofs.Ytkdndllgocdbdaa.C
open Go.RowKit Go.Proofs.YtkdndllgocdbdaaW Go.Proofs.YtkdndllgocdbdaaW.PrintWords Go.Proofs.Ytkdndllgocdbdaa.U
set_option maxHeartbeats 1000000
set_option maxRecDepth 100000
set_option linter.unusedVariables false
set_option linter.unusedSimpArgs false
theorem impl_within (n a b : Int) (w : World) : Calls Try.prog 96 #[.int .i64 n, .int .i64 a, .int .i64 b] w fun e w' => e = .returned (.bool (inB n a b)) ∧ w = w' := by
  go_enter Try.func96, Try.ntmps96
  go_wp2
  all_goals (go_ret; exact ⟨by first | rfl | (simp [inB, *]; done) | (simp [inB, *]; omega) | (simp_all [inB]; done) | (simp_all [inB]; omega), rfl⟩)
theorem impl_isKey (n : Int) (w : World) : Calls Try.prog 100 #[.int .i64 n] w fun e w' => e = .returned (.bool (inB n 0 65535)) ∧ w = w' := by
  go_enter Try.func100, Try.ntmps100
  go_wp2_with (go_at_call 96; refine (impl_within _ _ _ _).mono ?_; rintro e w' ⟨rfl, rfl⟩)
  go_ret
  exact ⟨rfl, rfl⟩
theorem impl_isTime (n : Int) (w : World) : Calls Try.prog 66 #[.int .i64 n] w fun e w' => e = .returned (.bool (inB n 0 1000000)) ∧ w = w' := by
  go_enter Try.func66, Try.ntmps66
  go_wp2_with (go_at_call 96; refine (impl_within _ _ _ _).mono ?_; rintro e w' ⟨rfl, rfl⟩)
  go_ret
  exact ⟨rfl, rfl⟩
theorem impl_isValue (n : Int) (w : World) : Calls Try.prog 101 #[.int .i64 n] w fun e w' => e = .returned (.bool (inB n (-1000000) 1000000)) ∧ w = w' := by
  go_enter Try.func101, Try.ntmps101
  go_wp2_with (go_at_call 96; refine (impl_within _ _ _ _).mono ?_; rintro e w' ⟨rfl, rfl⟩)
  go_ret
  exact ⟨rfl, rfl⟩
theorem impl_isMark (n : Int) (w : World) : Calls Try.prog 58 #[.int .i64 n] w fun e w' => e = .returned (.bool (inB n (-1) 1000000)) ∧ w = w' := by
  go_enter Try.func58, Try.ntmps58
  go_wp2_with (go_at_call 96; refine (impl_within _ _ _ _).mono ?_; rintro e w' ⟨rfl, rfl⟩)
  go_ret
  exact ⟨rfl, rfl⟩
theorem wrap_neg (z : Int) : (wrap64 z = -9223372036854775808 ∧ wrap64 (-wrap64 z) = wrap64 z) ∨ wrap64 (-wrap64 z) = -wrap64 z := by
  simp only [wrap64, IntKind.wrap]
  omega
theorem impl_meet (x y : Frame) (c : Int) (w : World) : Calls Try.prog 62 #[.agg #[.int .i64 x.kind, .int .i64 x.key, .int .i64 x.time, .int .i64 x.value], .agg #[.int .i64 y.kind, .int .i64 y.key, .int .i64 y.time, .int .i64 y.value], .int .i64 c] w fun e w' => e = .returned (.bool (meetB x y c)) ∧ Below w.heap.size w w' := by
  have hn := Aside0.mk (wrap_neg (x.time - y.time))
  rw [meetB]
  go_enter Try.func62, Try.ntmps62
  go_wp2
  all_goals (go_ret; refine ⟨ret_bool ?_, by go_grown⟩; go_light; have hn := hn.out; (first | (rw [Bool.eq_iff_iff]; simp only [decide_eq_true_eq, Bool.and_eq_true]; (repeat' split) <;> (constructor <;> intros <;> (repeat' apply And.intro) <;> first | assumption | omega | (simp_all; done) | (simp_all; omega))) | (simp_all; done) | (simp_all; omega)))
theorem impl_pairOf (x y : Frame) (w : World) : Calls Try.prog 67 #[.agg #[.int .i64 x.kind, .int .i64 x.key, .int .i64 x.time, .int .i64 x.value], .agg #[.int .i64 y.kind, .int .i64 y.key, .int .i64 y.time, .int .i64 y.value]] w fun e w' => e = .returned (.agg #[.int .i64 ((pairB x y)).key, .int .i64 ((pairB x y)).lt, .int .i64 ((pairB x y)).rt, .int .i64 ((pairB x y)).left, .int .i64 ((pairB x y)).right]) ∧ Below w.heap.size w w' := by
  go_enter Try.func67, Try.ntmps67
  go_wp2
  exact bodyPost_ret (v := .agg #[.int .i64 ((pairB x y)).key, .int .i64 ((pairB x y)).lt, .int .i64 ((pairB x y)).rt, .int .i64 ((pairB x y)).left, .int .i64 ((pairB x y)).right]) (by simp [results, Try.results67, pairB, go_sem, *]) rfl ⟨rfl, by go_grown⟩
theorem spec_l01In (n a b : Int) (w : World) : Calls Try.prog 64 #[.int .i64 n, .int .i64 a, .int .i64 b] w fun e w' => e = .returned (.bool (inB n a b)) ∧ w = w' := by
  go_enter Try.func64, Try.ntmps64
  go_wp2
  all_goals (go_ret; exact ⟨by first | rfl | (simp [inB, *]; done) | (simp [inB, *]; omega) | (simp_all [inB]; done) | (simp_all [inB]; omega), rfl⟩)
theorem spec_FrameOk (x : Frame) (w : World) : Calls Try.prog 81 #[.agg #[.int .i64 x.kind, .int .i64 x.key, .int .i64 x.time, .int .i64 x.value]] w fun e w' => e = .returned (.bool (okFrame x)) ∧ Below w.heap.size w w' := by
  go_enter Try.func81, Try.ntmps81
  go_wp2_with (go_at_call 64; refine (spec_l01In _ _ _ _).mono ?_; rintro e w' ⟨rfl, rfl⟩)
  all_goals (go_ret; refine ⟨ret_bool ?_, by go_grown⟩; go_light; simp only [okFrame]; (repeat' split) <;> (first | omega | (simp_all; done) | (simp_all; omega) | (rw [Bool.eq_iff_iff]; simp_all; done) | (rw [Bool.eq_iff_iff]; simp_all; omega)))
theorem spec_l04Mark (n : Int) (w : World) : Calls Try.prog 56 #[.int .i64 n] w fun e w' => e = .returned (.bool (inB n (-1) 1000000)) ∧ w = w' := by
  go_enter Try.func56, Try.ntmps56
  go_wp2_with (go_at_call 64; refine (spec_l01In _ _ _ _).mono ?_; rintro e w' ⟨rfl, rfl⟩)
  go_ret
  exact ⟨rfl, rfl⟩
theorem spec_l12Meet (x y : Frame) (c : Int) (w : World) : Calls Try.prog 59 #[.agg #[.int .i64 x.kind, .int .i64 x.key, .int .i64 x.time, .int .i64 x.value], .agg #[.int .i64 y.kind, .int .i64 y.key, .int .i64 y.time, .int .i64 y.value], .int .i64 c] w fun e w' => e = .returned (.bool (meetB x y c)) ∧ Below w.heap.size w w' := by
  go_enter Try.func59, Try.ntmps59
  go_wp2
  all_goals (go_ret; refine ⟨ret_bool ?_, by go_grown⟩; go_light; first | rfl | (simp [meetB, *]; done) | (simp [meetB, *]; omega) | (simp_all [meetB]; done) | (simp_all [meetB]; omega))
theorem spec_l12Pair (x y : Frame) (w : World) : Calls Try.prog 65 #[.agg #[.int .i64 x.kind, .int .i64 x.key, .int .i64 x.time, .int .i64 x.value], .agg #[.int .i64 y.kind, .int .i64 y.key, .int .i64 y.time, .int .i64 y.value]] w fun e w' => e = .returned (.agg #[.int .i64 ((pairB x y)).key, .int .i64 ((pairB x y)).lt, .int .i64 ((pairB x y)).rt, .int .i64 ((pairB x y)).left, .int .i64 ((pairB x y)).right]) ∧ Below w.heap.size w w' := by
  go_enter Try.func65, Try.ntmps65
  go_wp2
  exact bodyPost_ret (v := .agg #[.int .i64 ((pairB x y)).key, .int .i64 ((pairB x y)).lt, .int .i64 ((pairB x y)).rt, .int .i64 ((pairB x y)).left, .int .i64 ((pairB x y)).right]) (by simp [results, Try.results65, pairB, go_sem, *]) rfl ⟨rfl, by go_grown⟩
theorem impl_FrameOk (x : Frame) (w : World) : Calls Try.prog 83 #[.agg #[.int .i64 x.kind, .int .i64 x.key, .int .i64 x.time, .int .i64 x.value]] w fun e w' => e = .returned (.bool (okFrame x)) ∧ Below w.heap.size w w' := by
  go_enter Try.func83, Try.ntmps83
  go_wp2_with (first | (go_at_call 66; refine (impl_isTime _ _).mono ?_; rintro e w' ⟨rfl, rfl⟩) | (go_at_call 100; refine (impl_isKey _ _).mono ?_; rintro e w' ⟨rfl, rfl⟩) | (go_at_call 101; refine (impl_isValue _ _).mono ?_; rintro e w' ⟨rfl, rfl⟩))
  all_goals (go_ret; refine ⟨ret_bool ?_, by go_grown⟩; go_light; simp only [okFrame]; (repeat' split) <;> (first | omega | (simp_all; done) | (simp_all; omega) | (rw [Bool.eq_iff_iff]; simp_all; done) | (rw [Bool.eq_iff_iff]; simp_all; omega)))
theorem spec_l12Event (x : Frame) (w : World) : Calls Try.prog 76 #[.agg #[.int .i64 x.kind, .int .i64 x.key, .int .i64 x.time, .int .i64 x.value]] w fun e w' => e = .returned (.bool (okEv x)) ∧ Below w.heap.size w w' := by
  have cF := spec_FrameOk x
  rw [okEv]
  generalize okFrame x = bb at cF ⊢
  cases bb
  all_goals
    go_enter Try.func76, Try.ntmps76
    go_wp2_with (go_at_call 81; refine (cF _).mono ?_; rintro e w1 ⟨rfl, hb⟩; obtain ⟨hc, hf⟩ := bcell hb; have hz0 : w.heap.size < w1.heap.size := (by have := hb.size; simp at this; omega))
    all_goals (go_ret; refine ⟨ret_bool ?_, below_step (below_alloc (Below.refl _ _) _) hb⟩; go_light; first | rfl | (simp; done) | simp_all)
theorem impl_isEvent (x : Frame) (w : World) : Calls Try.prog 77 #[.agg #[.int .i64 x.kind, .int .i64 x.key, .int .i64 x.time, .int .i64 x.value]] w fun e w' => e = .returned (.bool (okEv x)) ∧ Below w.heap.size w w' := by
  obtain ⟨k, a, b, c⟩ := x
  have cF := impl_FrameOk ⟨k, a, b, c⟩
  rw [okEv]
  dsimp only at cF ⊢
  by_cases hk : k = 1
  · subst hk
    go_enter Try.func77, Try.ntmps77
    go_wp2_with (go_at_call 83; refine (cF _).mono ?_; rintro e w1 ⟨rfl, hb⟩)
    go_ret; exact ⟨ret_bool (by simp), below_step (below_alloc (Below.refl _ _) _) hb⟩
  · go_enter Try.func77, Try.ntmps77
    go_wp2
    go_ret; refine ⟨ret_bool ?_, by go_grown⟩; go_light; simp [hk]
theorem all_noneTo {α : Type} {p : α → Bool} {l : List α} (h : noneTo (fun x => !p x) l l.length) : l.all p = true := List.all_eq_true.2 (fun x hx => by
  obtain ⟨i, hi, rfl⟩ := List.mem_iff_getElem.1 hx
  have := h i hi _ (List.getElem?_eq_getElem hi)
  simpa using this)
theorem all_hit {α : Type} {p : α → Bool} {l : List α} {k : Nat} {x : α} (hx : l[k]? = some x) (hp : p x = false) : l.all p = false := by
  have hm := List.mem_of_getElem? hx
  rw [← Bool.not_eq_true, List.all_eq_true]
  intro h
  rw [h x hm] at hp
  cases hp
theorem spec_l12Events (A : Option Addr) (c : Nat) (l : List Frame) (w : World) (h : Kd.C kFrame w A l.length l) : Calls Try.prog 55 #[.slice A l.length c] w fun e w' => e = .returned (.bool (okEvs l)) ∧ Below w.heap.size w w' := by
  have hl : l.length ≤ 9223372036854775807 := h.2.1
  have H := Aside0.mk h
  clear h
  rw [okEvs]
  by_cases hlen : l.length ≤ 40
  case neg =>
    have hd : decide (40 < (l.length : Int)) = true := by simp; omega
    go_enter Try.func55, Try.ntmps55
    go_wp2
    go_ret
    exact ⟨ret_bool (by simp [hlen]), by go_grown⟩
  have hd : decide (40 < (l.length : Int)) = false := by simp; omega
  go_enter Try.func55, Try.ntmps55
  go_wp2
  go_loopw [3] (fun i wr => ∃ k : Nat, k ≤ l.length ∧ i = .int .i64 k ∧ Aside0 (noneTo (fun x => !okEv x) l k) ∧ Aside0 (Below w.heap.size w wr)) (fun i _ => l.length - (intOf i).toNat)
  case atStart => exact ⟨0, Nat.zero_le _, rfl, ⟨noneTo_zero _ _⟩, ⟨by go_grown⟩⟩
  case round =>
    obtain ⟨k, hk, rfl, HN, HB⟩ := hrel
    by_cases hlt : k < l.length
    · obtain ⟨x, hx⟩ := el hlt
      obtain ⟨ad, rfl, C0⟩ := at_Frame (Kd.C_below H.out HB.out) hx.out
      have k0 : (0 : Int) ≤ (k : Int) := Int.natCast_nonneg _
      have k1 : (k : Int) < (l.length : Int) := by omega
      have cF := spec_l12Event x
      generalize hv : okEv x = bb at cF
      cases bb
      · go_wp2_with (go_at_call 76; refine (cF _).mono ?_; rintro e w1 ⟨rfl, hb⟩)
        go_ret
        exact ⟨ret_bool (by rw [all_hit hx.out hv]; simp), below_step HB.out hb⟩
      · go_wp2_with (go_at_call 76; refine (cF _).mono ?_; rintro e w1 ⟨rfl, hb⟩)
        go_roundw
        case rel => exact ⟨k + 1, by omega, by go_num, ⟨noneTo_succ HN.out hx.out (by simp [hv])⟩, ⟨below_step HB.out hb⟩⟩
        case measure => simp [intOf]; omega
    · obtain rfl : k = l.length := by omega
      go_wp2
      go_ret
      exact ⟨ret_bool (by rw [all_noneTo HN.out]; simp [hlen]), HB.out⟩
theorem impl_areEvents_1 (x : Frame) (w : World) : Calls Try.prog 95 #[.agg #[.int .i64 x.kind, .int .i64 x.key, .int .i64 x.time, .int .i64 x.value]] w fun e w' => e = .returned (.bool (!okEv x)) ∧ Below w.heap.size w w' := by
  go_enter Try.func95, Try.ntmps95
  go_wp2_with (go_at_call 77; refine (impl_isEvent x _).mono ?_; rintro e w1 ⟨rfl, hb⟩)
  go_ret
  exact ⟨rfl, below_step (below_alloc (Below.refl _ _) _) hb⟩
theorem spec_JoinOk (A A' : Option Addr) (c c' : Nat) (l l' : List Frame) (m : Int) (w : World) (h : Kd.C kFrame w A l.length l) (h' : Kd.C kFrame w A' l'.length l') : Calls Try.prog 14 #[.agg #[.slice A l.length c, .slice A' l'.length c', .int .i64 m]] w fun e w' => e = .returned (.bool (okJoin l l' m)) ∧ Below w.heap.size w w' := by
  have cE := fun W (hW : Kd.C kFrame W A l.length l) => spec_l12Events A c l W hW
  have cE' := fun W (hW : Kd.C kFrame W A' l'.length l') => spec_l12Events A' c' l' W hW
  have H := Aside0.mk h
  have H' := Aside0.mk h'
  clear h h'
  rw [okJoin]
  generalize okEvs l = b1 at cE ⊢
  generalize okEvs l' = b2 at cE' ⊢
  cases b1 <;> cases b2
  all_goals
    go_enter Try.func14, Try.ntmps14
    go_wp2_with (first
      | (go_at_call 55; (with_reducible refine (cE _ ?_).mono ?_); (· exact Kd.C_below H.out (by go_grown)); rintro e w1 ⟨rfl, hb⟩; have HB := Aside0.mk (below_step (below_alloc (Below.refl w.heap.size w) _) hb); obtain ⟨hc, hf⟩ := bcell hb; have hz0 : w.heap.size < w1.heap.size := (by have := hb.size; simp at this; omega))
      | (go_at_call 55; (with_reducible refine (cE' _ ?_).mono ?_); (· exact Kd.C_below H'.out HB.out); rintro e w2 ⟨rfl, hb2⟩; have HB2 := Aside0.mk (below_step HB.out hb2); obtain ⟨hc2, hf2⟩ := bcell hb2; have hz2 : w.heap.size < w2.heap.size := (by have := hb2.size; omega))
      | (go_at_call 56; refine (spec_l04Mark _ _).mono ?_; rintro e w' ⟨rfl, rfl⟩))
    all_goals (go_ret; refine ⟨ret_bool ?_, by first | exact HB2.out | exact HB.out⟩; go_light; first | rfl | (simp; done) | simp_all)
theorem slices_Clone_Frame (A : Option Addr) (c : Nat) (l : List Frame) (w : World) (h : Kd.C kFrame w A l.length l) (hn : l.length ≤ 1000000000) : Calls Try.prog 99 #[.slice A l.length c] w fun e w' => ∃ Ao co, e = .returned (.slice Ao l.length co) ∧ kFrame.R 56 w' w.heap.size (fun _ => True) (.slice Ao l.length co) l ∧ Below w.heap.size w w' := by
  have H := Aside0.mk h
  clear h
  rcases A with _ | ad
  · have h0 : l = [] := by
      rcases l with _ | ⟨x, r⟩
      · rfl
      · obtain ⟨ad, e, _⟩ := H.out.2.2 (by simp)
        cases e
    subst h0
    have he := fun w : World => Lib.run_eql_slice_nil w _ _ none 0 c 0 0 Try.underlying27
    go_enter Try.func99, Try.ntmps99
    go_wp2
    go_ret
    exact ⟨none, 0, rfl, ⟨fun k hk => by (first | trivial | cases hk), [], ⟨by simp, .inl ⟨rfl, rfl⟩⟩, Reps.none _ _⟩, by go_grown⟩
  · have he := fun w : World => Lib.run_eql_slice_nil w _ _ (some ad) l.length c 0 0 Try.underlying27
    go_enter Try.func99, Try.ntmps99
    go_wp2_with (at_builtin; refine Kd.R_append_rows kFrame (w0 := w) w.heap.size rfl (.tmp 5) (.tmp 6) 27 56 _ 32 rfl Try.underlying27 infoFrame rfl (by decide) (by omega) _ ([]) l _ _ _ (fun _ => True) (fun _ => False) rfl rfl ?aO ?aR (fun _ _ h => h) (fun _ h => h.elim) (fun _ _ => trivial) ?aB ?aS ?hl ?_; (case aO => exact (R_empty _ _ _ (by simp) trivial)); (case aR => exact ((Kd.C_below H.out (by go_grown)))); (case aB => exact ((by go_grown))); (case aS => first | (simp; done) | (simp; omega) | exact (Below.size ((by go_grown)))); (case hl => first | omega | (simp; omega)); intro v1 w1 ho1 hb1 hg1 hat1)
    go_ret
    obtain ⟨Ao, co, rfl⟩ := Kd.R_slice ho1
    exact ⟨Ao, co, rfl, ho1, hb1⟩
theorem slices_IndexFunc_Frame (A : Option Addr) (c : Nat) (l : List Frame) (w : World) (h : Kd.C kFrame w A l.length l) : Calls Try.prog 97 #[.slice A l.length c, .func (.func 95) #[] #[]] w fun e w' => e = .returned (.int .i64 (idxB (fun x => !okEv x) l)) ∧ Below w.heap.size w w' := by
  have H := Aside0.mk h
  have hl : l.length ≤ 9223372036854775807 := h.2.1
  clear h
  go_enter Try.func97, Try.ntmps97
  go_wp2
  go_loopw [8] (fun i wr => ∃ k : Nat, k ≤ l.length ∧ i = .int .i64 k ∧ Aside0 (noneTo (fun x => !okEv x) l k) ∧ Aside0 (Below w.heap.size w wr)) (fun i _ => l.length - (intOf i).toNat)
  case atStart => exact ⟨0, Nat.zero_le _, rfl, ⟨noneTo_zero _ _⟩, ⟨by go_grown⟩⟩
  case round =>
    obtain ⟨k, hk, rfl, HN, HB⟩ := hrel
    by_cases hlt : k < l.length
    · obtain ⟨x, hx⟩ := el hlt
      obtain ⟨ad, rfl, C0⟩ := at_Frame (Kd.C_below H.out HB.out) hx.out
      have k0 : (0 : Int) ≤ (k : Int) := Int.natCast_nonneg _
      have k1 : (k : Int) < (l.length : Int) := by omega
      have cF := impl_areEvents_1 x
      have HV := Aside0.mk (rfl : (!okEv x) = !okEv x)
      generalize hv : (!okEv x) = bb at cF
      cases bb
      · go_wp2_with (go_at_call 95; refine (cF _).mono ?_; rintro e w1 ⟨rfl, hb⟩)
        go_roundw
        case rel => exact ⟨k + 1, by omega, by go_num, ⟨noneTo_succ HN.out hx.out hv⟩, ⟨below_step HB.out hb⟩⟩
        case measure => simp [intOf]; omega
      · go_wp2_with (go_at_call 95; refine (cF _).mono ?_; rintro e w1 ⟨rfl, hb⟩)
        go_ret
        exact ⟨by rw [idxB_hit HN.out hx.out hv]; rfl, below_step HB.out hb⟩
    · obtain rfl : k = l.length := by omega
      go_wp2
      go_ret
      exact ⟨by rw [idxB_none HN.out]; rfl, HB.out⟩
theorem slices_ContainsFunc_Frame (A : Option Addr) (c : Nat) (l : List Frame) (w : World) (h : Kd.C kFrame w A l.length l) : Calls Try.prog 60 #[.slice A l.length c, .func (.func 95) #[] #[]] w fun e w' => e = .returned (.bool (!l.all okEv)) ∧ Below w.heap.size w w' := by
  go_enter Try.func60, Try.ntmps60
  go_wp2_with (go_at_call 97; refine (slices_IndexFunc_Frame A c l _ h).mono ?_; rintro e w1 ⟨rfl, hb⟩)
  go_ret
  exact ⟨ret_bool (by rw [idxB_any, idxB_not]), hb⟩
theorem impl_areEvents (A : Option Addr) (c : Nat) (l : List Frame) (w : World) (h : Kd.C kFrame w A l.length l) : Calls Try.prog 57 #[.slice A l.length c] w fun e w' => e = .returned (.bool (okEvs l)) ∧ Below w.heap.size w w' := by
  have hl : l.length ≤ 9223372036854775807 := h.2.1
  rw [okEvs]
  by_cases hlen : l.length ≤ 40
  · have hd : decide ((l.length : Int) ≤ 40) = true := by simp; omega
    go_enter Try.func57, Try.ntmps57
    go_wp2_with (go_at_call 60; refine (slices_ContainsFunc_Frame A c l _ h).mono ?_; rintro e w1 ⟨rfl, hb⟩)
    go_ret
    exact ⟨ret_bool (by simp [hlen]), hb⟩
  · have hd : decide ((l.length : Int) ≤ 40) = false := by simp; omega
    go_enter Try.func57, Try.ntmps57
    go_wp2
    go_ret
    exact ⟨ret_bool (by simp [hlen]), by go_grown⟩
theorem impl_JoinOk (A A' : Option Addr) (c c' : Nat) (l l' : List Frame) (m : Int) (w : World) (h : Kd.C kFrame w A l.length l) (h' : Kd.C kFrame w A' l'.length l') : Calls Try.prog 16 #[.agg #[.slice A l.length c, .slice A' l'.length c', .int .i64 m]] w fun e w' => e = .returned (.bool (okJoin l l' m)) ∧ Below w.heap.size w w' := by
  have cE := fun W (hW : Kd.C kFrame W A l.length l) => impl_areEvents A c l W hW
  have cE' := fun W (hW : Kd.C kFrame W A' l'.length l') => impl_areEvents A' c' l' W hW
  have H := Aside0.mk h
  have H' := Aside0.mk h'
  clear h h'
  rw [okJoin]
  generalize okEvs l = b1 at cE ⊢
  generalize okEvs l' = b2 at cE' ⊢
  cases b1 <;> cases b2
  all_goals
    go_enter Try.func16, Try.ntmps16
    go_wp2_with (first
      | (go_at_call 57; (with_reducible refine (cE _ ?_).mono ?_); (· exact Kd.C_below H.out (by go_grown)); rintro e w1 ⟨rfl, hb⟩; have HB := Aside0.mk (below_step (below_alloc (Below.refl w.heap.size w) _) hb); obtain ⟨hc, hf⟩ := bcell hb; have hz0 : w.heap.size < w1.heap.size := (by have := hb.size; simp at this; omega))
      | (go_at_call 57; (with_reducible refine (cE' _ ?_).mono ?_); (· exact Kd.C_below H'.out HB.out); rintro e w2 ⟨rfl, hb2⟩; have HB2 := Aside0.mk (below_step HB.out hb2); obtain ⟨hc2, hf2⟩ := bcell hb2; have hz2 : w.heap.size < w2.heap.size := (by have := hb2.size; omega))
      | (go_at_call 58; refine (impl_isMark _ _).mono ?_; rintro e w' ⟨rfl, rfl⟩))
    all_goals (go_ret; refine ⟨ret_bool ?_, by first | exact HB2.out | exact HB.out⟩; go_light; first | rfl | (simp; done) | simp_all)
end Go.Proofs.Ytkdndllgocdbdaa.C
