/- The row of FnExactCrashAt: what the form reads of the arguments, opened; the printed contract; and what is known of the arguments, shut again. Written by this session's own genrow.py. -/
import Derived.Test.YtengkenhmnpbeaaRows
import Derived.Test.YtengkenhmnpbeaaUYLawCrashAt
import Derived.Test.YtengkenhmnpbeaaOpen
import Derived.WalkKit
import Derived.ProofKit
import Derived.OpenShut
import Derived.ShutString
import Derived.ChangeOld
import Derived.Below
import Derived.SizedLaws
namespace Go.Proofs.Ytengkenhmnpbeaa
open Go.ChangeShapes Go.WideShapes Go.ChangeAt Go.RowKit
open Go.Proofs.YtengkenhmnpbeaaW.PrintWords
set_option linter.unusedVariables false
set_option maxRecDepth 100000
namespace RowFnExactCrashAt
theorem opens_kind {P : Program} {t : TypeId} {α β : Type} {d : Kd α} {d' : Kd β} {Wf : α → Prop} (g : α → β) (hk : ∀ w a cs, d.K w a cs → d'.K w (g a) cs) (h : Open.Opens P t d Wf) : Open.Opens P t d' (fun _ => True) :=
  ⟨fun {H enc w base fuel cs x} hx => by
    obtain ⟨a, ha, _⟩ := h.out hx
    exact ⟨g a, hk _ _ _ ha, trivial⟩⟩
theorem opens107 : Open.Opens Try.prog 107 C.kFrame (fun _ => True) :=
  opens_kind (fun a => (⟨a.1, a.2.1, a.2.2.1, a.2.2.2⟩ : C.Frame)) (fun w a cs h => by
    obtain ⟨_, _, rfl, rfl, ⟨_, _, rfl, rfl, ⟨_, _, rfl, rfl, rfl⟩⟩⟩ := h
    rfl) (Open.opens_struct0 Try.underlying107 (by kernel_rfl) (Open.opens_next rfl (by kernel_rfl) (Open.opens_int Try.underlying3) (Open.opens_next rfl (by kernel_rfl) (Open.opens_int Try.underlying3) (Open.opens_next rfl (by kernel_rfl) (Open.opens_int Try.underlying3) (Open.opens_last rfl (by kernel_rfl) (Open.opens_int Try.underlying3))))))
theorem own : ownKnob Try.prog.godebug = none := by kernel_rfl
theorem laidOut : laidOutB Try.prog = true := by kernel_rfl
theorem arg0 : Open.Opens Try.prog 3 (Kd.int .i64) Kit.I64 :=
  Open.opens_imp (fun _ h => h) (Open.opens_int Try.underlying3)
theorem arg1 : Open.Opens Try.prog 3 (Kd.int .i64) Kit.I64 :=
  Open.opens_imp (fun _ h => h) (Open.opens_int Try.underlying3)
theorem arg2 : Open.Opens Try.prog 65 (Kd.slice 107 C.kFrame) (Kit.AllOf (fun _ => True)) :=
  Open.opens_imp (fun _ h => h) (Open.opens_slice Try.underlying65 (by kernel_rfl) RowFnExactCrashAt.opens107)
theorem arg3 : Open.Opens Try.prog 3 (Kd.int .i64) Kit.I64 :=
  Open.opens_imp (fun _ h => h) (Open.opens_int Try.underlying3)
theorem arg4 : Open.Opens Try.prog 3 (Kd.int .i64) Kit.I64 :=
  Open.opens_imp (fun _ h => h) (Open.opens_int Try.underlying3)
theorem lifted (os : Os) (started : os.Started) (H : Type) (enc : TypeId × Value → H) :
    ReturnsInHanded {} Try.checked os 13 .any (Rows.fnExactCrashAtSpec.pre6 enc Try.prog Try.f13 Rows.fnExactCrashAtRow.domain false) (Rows.fnExactCrashAtSpec.post enc Try.prog Try.f13 false true false false) := by
  refine returnsInHanded_of_change_sized (C := Try.checked) own started (by kernel_rfl) Try.func13
    (ChangeSpec.witness6 (enc := enc) (C := Try.checked) false ⟨#[], #[.int .i64 0, .int .i64 0, .slice none 0 0, .int .i64 0, .int .i64 0], []⟩ 8 (by kernel_rfl) (by kernel_rfl) (by kernel_rfl) (by kernel_rfl)) ?_
  intro W base args ds gs before hval0 hW hcnd hsz0 _
  have hval : ∀ (j : Nat) t v, Try.f13.params[j]? = some t → args[j]? = some v → Value.okWide Try.prog W .any base t v := hval0
  have hW' := hW
  obtain ⟨p, q, hA0, hV, rfl, hfz, hnd⟩ := hW
  have hA : DataW.TrodAll enc Try.prog W 0 (fun _ => true) true Try.f13.params.toList args.toList ds p := hA0
  rw [Try.params13] at hA hval
  obtain ⟨v0, vs0, d0, ds0, p0, q0, hargs, rfl, rfl, h0, r0⟩ := trodAll_cons hA
  obtain ⟨v1, vs1, d1, ds1, p1, q1, rfl, rfl, rfl, h1, r1⟩ := trodAll_cons r0
  obtain ⟨v2, vs2, d2, ds2, p2, q2, rfl, rfl, rfl, h2, r2⟩ := trodAll_cons r1
  obtain ⟨v3, vs3, d3, ds3, p3, q3, rfl, rfl, rfl, h3, r3⟩ := trodAll_cons r2
  obtain ⟨v4, vs4, d4, ds4, p4, q4, rfl, rfl, rfl, h4, r4⟩ := trodAll_cons r3
  obtain ⟨rfl, rfl, rfl⟩ := trodAll_nil r4
  obtain rfl : args = #[v0, v1, v2, v3, v4] := by cases args; simp_all
  obtain ⟨rfl, rfl⟩ := trodVars_none hV
  have k0_ := h0
  have lt0 : ∀ x ∈ p0, x.block < W.heap.size := by obtain ⟨m, hm⟩ := k0_; exact DataW.trod_lt m _ _ _ hm
  obtain ⟨a0, rfl, rfl, rfl, wf0⟩ := open_int Try.underlying3 (hval 0 3 v0 rfl rfl) h0
  have k1_ := h1
  have lt1 : ∀ x ∈ p1, x.block < W.heap.size := by obtain ⟨m, hm⟩ := k1_; exact DataW.trod_lt m _ _ _ hm
  obtain ⟨a1, rfl, rfl, rfl, wf1⟩ := open_int Try.underlying3 (hval 1 3 v1 rfl rfl) h1
  have k2_ := h2
  have lt2 : ∀ x ∈ p2, x.block < W.heap.size := by obtain ⟨m, hm⟩ := k2_; exact DataW.trod_lt m _ _ _ hm
  obtain ⟨a_2, len_2, cap_2, rfl⟩ := okWide_slice Try.underlying65 (hval 2 65 v2 rfl rfl)
  obtain ⟨x2, K2, w2⟩ : ∃ x, (Kd.slice 107 C.kFrame).K W x [Value.slice a_2 len_2 cap_2] ∧ (Kit.AllOf (fun _ => True)) x := by
    obtain ⟨fuel, hf⟩ := h2
    exact arg2.out hf
  obtain ⟨A2, c2, e2, hc2, hr2⟩ := K2
  simp only [List.cons.injEq, Value.slice.injEq, and_true] at e2
  obtain ⟨rfl, rfl, rfl⟩ := e2
  have k3_ := h3
  have lt3 : ∀ x ∈ p3, x.block < W.heap.size := by obtain ⟨m, hm⟩ := k3_; exact DataW.trod_lt m _ _ _ hm
  obtain ⟨a3, rfl, rfl, rfl, wf3⟩ := open_int Try.underlying3 (hval 3 3 v3 rfl rfl) h3
  have k4_ := h4
  have lt4 : ∀ x ∈ p4, x.block < W.heap.size := by obtain ⟨m, hm⟩ := k4_; exact DataW.trod_lt m _ _ _ hm
  obtain ⟨a4, rfl, rfl, rfl, wf4⟩ := open_int Try.underlying3 (hval 4 3 v4 rfl rfl) h4
  refine (C.y_lawCrashAt a0 a1 x2 a3 a4 w2.1 (Kit.i64_wf wf4) W [_, _, _, _, _] ⟨rfl, rfl, ⟨_, _, rfl, hc2, hr2⟩, rfl, rfl, trivial⟩).mono fun e W' ⟨v, he, hm, bel⟩ => ?_
  obtain ⟨ow, _, _, hm⟩ := hm
  obtain rfl : v = .bool true := hm
  subst he
  exact ⟨_, rfl, _, _, _, [], _, [], hW', trodAll_mk1 (shut_bool Try.underlying4 _), (trodAll_cons_mk (shut_int Try.underlying3 wf0) (trodAll_cons_mk (shut_int Try.underlying3 wf1) (trodAll_cons_mk (Below.trod laidOut (by kernel_rfl) (of_decide_eq_true (by kernel_rfl)) k2_ bel lt2) (trodAll_cons_mk (shut_int Try.underlying3 wf3) (trodAll_cons_mk (shut_int Try.underlying3 wf4) trodAll_mk0))))), rfl, bel.frame _, fun h => by cases h⟩
theorem over : Rows.fnExactCrashAtRow.holds Try.pinned (OpenSpec.ofChange Rows.fnExactCrashAtSpec) :=
  OpenClaim.holds_of_wide 13 Try.f13 rfl rfl rfl rfl rfl rfl rfl ⟨rfl, rfl, rfl, rfl, rfl⟩ rfl rfl rfl rfl rfl (by kernel_rfl) Try.func13 (by kernel_rfl)
    (of_decide_eq_true (by kernel_rfl)) (by unfold Func.isWrapper; first | (rw [if_pos (by decide +kernel)]; kernel_rfl) | (rw [if_neg (by decide +kernel)]; exact ⟨rfl, rfl⟩))
    (fun os started H enc _ => lifted os started H enc)
end RowFnExactCrashAt
/-- The law's statement. -/
theorem fnExactCrashAt_holds : Rows.FnExactCrashAtSaid := RowFnExactCrashAt.over
#print axioms fnExactCrashAt_holds
end Go.Proofs.Ytengkenhmnpbeaa
