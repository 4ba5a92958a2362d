/- The row of FnExactMergeHeavy: what the form reads of the arguments, opened; the printed contract; and what is known of the arguments, shut again. Written by this session's own genrow.py. -/
import Derived.Test.YthacciliemgilaaRows
import Derived.Test.YthacciliemgilaaUYLawMergeHeavy
import Derived.Test.YthacciliemgilaaOpen
import Derived.WalkKit
import Derived.ProofKit
import Derived.OpenShut
import Derived.ShutString
import Derived.ChangeOld
import Derived.Below
import Derived.SizedLaws
namespace Go.Proofs.Ythacciliemgilaa
open Go.ChangeShapes Go.WideShapes Go.ChangeAt Go.RowKit
open Go.Proofs.YthacciliemgilaaW.PrintWords
set_option linter.unusedVariables false
set_option maxRecDepth 100000
namespace RowFnExactMergeHeavy
theorem opens_kind {P : Program} {t : TypeId} {α β : Type} {d : Kd α} {d' : Kd β} {Wf : α → Prop} (g : α → β) (hk : ∀ w a cs, d.K w a cs → d'.K w (g a) cs) (h : Open.Opens P t d Wf) : Open.Opens P t d' (fun _ => True) :=
  ⟨fun {H enc w base fuel cs x} hx => by
    obtain ⟨a, ha, _⟩ := h.out hx
    exact ⟨g a, hk _ _ _ ha, trivial⟩⟩
theorem opens64 : Open.Opens Try.prog 64 C.kSlot (fun _ => True) :=
  opens_kind (fun a => (⟨a.1, a.2⟩ : C.Slot)) (fun w a cs h => by
    obtain ⟨_, _, rfl, rfl, rfl⟩ := h
    rfl) (Open.opens_struct0 Try.underlying64 (by kernel_rfl) (Open.opens_next rfl (by kernel_rfl) (Open.opens_int Try.underlying3) (Open.opens_last rfl (by kernel_rfl) (Open.opens_int Try.underlying3))))
theorem own : ownKnob Try.prog.godebug = none := by kernel_rfl
theorem laidOut : laidOutB Try.prog = true := by kernel_rfl
theorem arg0 : Open.Opens Try.prog 24 (Kd.pair (Kd.int .i64) (Kd.pair (Kd.slice 64 C.kSlot) (Kd.pair (Kd.int .i64) (Kd.int .i64)))) (fun x => (Kit.I64 x.1 ∧ ((Kit.AllOf (fun _ => True)) x.2.1 ∧ (Kit.I64 x.2.2.1 ∧ Kit.I64 x.2.2.2)))) :=
  Open.opens_imp (fun _ h => h) (Open.opens_struct0 Try.underlying24 (by kernel_rfl) (Open.opens_next rfl (by kernel_rfl) (Open.opens_int Try.underlying3) (Open.opens_next rfl (by kernel_rfl) (Open.opens_slice Try.underlying22 (by kernel_rfl) RowFnExactMergeHeavy.opens64) (Open.opens_next rfl (by kernel_rfl) (Open.opens_int Try.underlying3) (Open.opens_last rfl (by kernel_rfl) (Open.opens_int Try.underlying3))))))
theorem arg1 : Open.Opens Try.prog 24 (Kd.pair (Kd.int .i64) (Kd.pair (Kd.slice 64 C.kSlot) (Kd.pair (Kd.int .i64) (Kd.int .i64)))) (fun x => (Kit.I64 x.1 ∧ ((Kit.AllOf (fun _ => True)) x.2.1 ∧ (Kit.I64 x.2.2.1 ∧ Kit.I64 x.2.2.2)))) :=
  Open.opens_imp (fun _ h => h) (Open.opens_struct0 Try.underlying24 (by kernel_rfl) (Open.opens_next rfl (by kernel_rfl) (Open.opens_int Try.underlying3) (Open.opens_next rfl (by kernel_rfl) (Open.opens_slice Try.underlying22 (by kernel_rfl) RowFnExactMergeHeavy.opens64) (Open.opens_next rfl (by kernel_rfl) (Open.opens_int Try.underlying3) (Open.opens_last rfl (by kernel_rfl) (Open.opens_int Try.underlying3))))))
theorem lifted (os : Os) (started : os.Started) (H : Type) (enc : TypeId × Value → H) :
    ReturnsInHanded {} Try.checked os 11 .any (Rows.fnExactMergeHeavySpec.pre6 enc Try.prog Try.f11 Rows.fnExactMergeHeavyRow.domain false) (Rows.fnExactMergeHeavySpec.post enc Try.prog Try.f11 false true false false) := by
  refine returnsInHanded_of_change_sized (C := Try.checked) own started (by kernel_rfl) Try.func11
    (ChangeSpec.witness6 (enc := enc) (C := Try.checked) false ⟨#[], #[.agg #[.int .i64 0, .slice none 0 0, .int .i64 0, .int .i64 0], .agg #[.int .i64 0, .slice none 0 0, .int .i64 0, .int .i64 0]], []⟩ 8 (by kernel_rfl) (by kernel_rfl) (by kernel_rfl) (by kernel_rfl)) ?_
  intro W base args ds gs before hval0 hW hcnd hsz0 _
  have hval : ∀ (j : Nat) t v, Try.f11.params[j]? = some t → args[j]? = some v → Value.okWide Try.prog W .any base t v := hval0
  have hW' := hW
  obtain ⟨p, q, hA0, hV, rfl, hfz, hnd⟩ := hW
  have hA : DataW.TrodAll enc Try.prog W 0 (fun _ => true) true Try.f11.params.toList args.toList ds p := hA0
  rw [Try.params11] at hA hval
  obtain ⟨v0, vs0, d0, ds0, p0, q0, hargs, rfl, rfl, h0, r0⟩ := trodAll_cons hA
  obtain ⟨v1, vs1, d1, ds1, p1, q1, rfl, rfl, rfl, h1, r1⟩ := trodAll_cons r0
  obtain ⟨rfl, rfl, rfl⟩ := trodAll_nil r1
  obtain rfl : args = #[v0, v1] := by cases args; simp_all
  obtain ⟨rfl, rfl⟩ := trodVars_none hV
  have k0_ := h0
  have lt0 : ∀ x ∈ p0, x.block < W.heap.size := by obtain ⟨m, hm⟩ := k0_; exact DataW.trod_lt m _ _ _ hm
  obtain ⟨cs0, rfl, _⟩ := okWide_struct Try.underlying24 (hval 0 24 v0 rfl rfl)
  obtain ⟨x0, K0, w0⟩ : ∃ x, (Kd.pair (Kd.int .i64) (Kd.pair (Kd.slice 64 C.kSlot) (Kd.pair (Kd.int .i64) (Kd.int .i64)))).K W x cs0.toList ∧ (fun x => (Kit.I64 x.1 ∧ ((Kit.AllOf (fun _ => True)) x.2.1 ∧ (Kit.I64 x.2.2.1 ∧ Kit.I64 x.2.2.2)))) x := by
    obtain ⟨fuel, hf⟩ := h0
    exact arg0.out hf
  obtain ⟨cs0⟩ := cs0
  simp only at K0
  obtain ⟨_, _, rfl, rfl, ⟨_, _, rfl, ⟨A0_1, c0_1, rfl, hc0_1, hr0_1⟩, ⟨_, _, rfl, rfl, rfl⟩⟩⟩ := K0
  have k1_ := h1
  have lt1 : ∀ x ∈ p1, x.block < W.heap.size := by obtain ⟨m, hm⟩ := k1_; exact DataW.trod_lt m _ _ _ hm
  obtain ⟨cs1, rfl, _⟩ := okWide_struct Try.underlying24 (hval 1 24 v1 rfl rfl)
  obtain ⟨x1, K1, w1⟩ : ∃ x, (Kd.pair (Kd.int .i64) (Kd.pair (Kd.slice 64 C.kSlot) (Kd.pair (Kd.int .i64) (Kd.int .i64)))).K W x cs1.toList ∧ (fun x => (Kit.I64 x.1 ∧ ((Kit.AllOf (fun _ => True)) x.2.1 ∧ (Kit.I64 x.2.2.1 ∧ Kit.I64 x.2.2.2)))) x := by
    obtain ⟨fuel, hf⟩ := h1
    exact arg1.out hf
  obtain ⟨cs1⟩ := cs1
  simp only at K1
  obtain ⟨_, _, rfl, rfl, ⟨_, _, rfl, ⟨A1_1, c1_1, rfl, hc1_1, hr1_1⟩, ⟨_, _, rfl, rfl, rfl⟩⟩⟩ := K1
  refine (C.y_lawMergeHeavy x0.1 x0.2.1 x0.2.2.1 x0.2.2.2 x1.1 x1.2.1 x1.2.2.1 x1.2.2.2 w0.2.1.1 w1.2.1.1 W [_, _] ⟨⟨[_, _, _, _], rfl, rfl, ⟨_, _, rfl, hc0_1, hr0_1⟩, rfl, rfl, trivial⟩, ⟨[_, _, _, _], rfl, rfl, ⟨_, _, rfl, hc1_1, hr1_1⟩, rfl, rfl, trivial⟩, trivial⟩).mono fun e W' ⟨v, he, hm, bel⟩ => ?_
  obtain ⟨ow, _, _, hm⟩ := hm
  obtain rfl : v = .bool true := hm
  subst he
  exact ⟨_, rfl, _, _, _, [], _, [], hW', trodAll_mk1 (shut_bool Try.underlying4 _), (trodAll_cons_mk (Below.trod laidOut (by kernel_rfl) (of_decide_eq_true (by kernel_rfl)) k0_ bel lt0) (trodAll_cons_mk (Below.trod laidOut (by kernel_rfl) (of_decide_eq_true (by kernel_rfl)) k1_ bel lt1) trodAll_mk0)), rfl, bel.frame _, fun h => by cases h⟩
theorem over : Rows.fnExactMergeHeavyRow.holds Try.pinned (OpenSpec.ofChange Rows.fnExactMergeHeavySpec) :=
  OpenClaim.holds_of_wide 11 Try.f11 rfl rfl rfl rfl rfl rfl rfl ⟨rfl, rfl, rfl, rfl, rfl⟩ rfl rfl rfl rfl rfl (by kernel_rfl) Try.func11 (by kernel_rfl)
    (of_decide_eq_true (by kernel_rfl)) (by unfold Func.isWrapper; first | (rw [if_pos (by decide +kernel)]; kernel_rfl) | (rw [if_neg (by decide +kernel)]; exact ⟨rfl, rfl⟩))
    (fun os started H enc _ => lifted os started H enc)
end RowFnExactMergeHeavy
/-- The law's statement. -/
theorem fnExactMergeHeavy_holds : Rows.FnExactMergeHeavySaid := RowFnExactMergeHeavy.over
#print axioms fnExactMergeHeavy_holds
end Go.Proofs.Ythacciliemgilaa
