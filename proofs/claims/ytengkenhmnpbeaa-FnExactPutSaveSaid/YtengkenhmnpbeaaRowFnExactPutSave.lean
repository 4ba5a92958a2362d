/- The row of FnExactPutSave: what the form reads of the arguments, opened; the printed contract; and what is known of the arguments, shut again. Written by this session's own genrow.py. -/
import Derived.Test.YtengkenhmnpbeaaRows
import Derived.Test.YtengkenhmnpbeaaPFnExactPutSavex9
import Derived.Test.YtengkenhmnpbeaaPureFnExactPutSave
import Derived.Test.YtengkenhmnpbeaaOpen
import Derived.WalkKit
import Derived.ProofKit
import Derived.OpenShut
import Derived.ShutString
import Derived.ChangeOld
import Derived.Below
import Derived.SizedLaws
namespace Go.Proofs.Ytengkenhmnpbeaa
open Go.ChangeShapes Go.WideShapes Go.ChangeAt Go.RowKit
open Go.Proofs.YtengkenhmnpbeaaW.PrintWords Go.Proofs.Ytengkenhmnpbeaa.PFnExactPutSave
set_option linter.unusedVariables false
set_option maxRecDepth 100000
namespace RowFnExactPutSave
def W116 (x : S116) : Prop := Kit.I64 x.f0 ∧ Kit.I64 x.f1 ∧ Kit.I64 x.f2 ∧ Kit.I64 x.f3 ∧ Kit.I64 x.f4 ∧ Kit.I64 x.f5
theorem opens116 : Open.Opens Try.prog 116 k116 RowFnExactPutSave.W116 :=
  Open.opens_imp (fun _ h => h) (Open.opens_struct (fun x : S116 => (x.f0, x.f1, x.f2, x.f3, x.f4, x.f5)) (fun a => ⟨a.1, a.2.1, a.2.2.1, a.2.2.2.1, a.2.2.2.2.1, a.2.2.2.2.2⟩) (fun _ => rfl) Try.underlying116 (by kernel_rfl) (Open.opens_next rfl (by kernel_rfl) (Open.opens_int Try.underlying3) (Open.opens_next rfl (by kernel_rfl) (Open.opens_int Try.underlying3) (Open.opens_next rfl (by kernel_rfl) (Open.opens_int Try.underlying3) (Open.opens_next rfl (by kernel_rfl) (Open.opens_int Try.underlying3) (Open.opens_next rfl (by kernel_rfl) (Open.opens_int Try.underlying3) (Open.opens_last rfl (by kernel_rfl) (Open.opens_int Try.underlying3))))))))
theorem own : ownKnob Try.prog.godebug = none := by kernel_rfl
theorem laidOut : laidOutB Try.prog = true := by kernel_rfl
theorem arg0 : Open.Opens Try.prog 33 (Kd.pair (Kd.int .i64) (Kd.pair (Kd.slice 116 k116) (Kd.pair (Kd.int .i64) (Kd.pair (Kd.int .i64) (Kd.int .i64))))) (fun x => (Kit.I64 x.1 ∧ (fun x => ((Kit.AllOf RowFnExactPutSave.W116) x.1 ∧ (Kit.I64 x.2.1 ∧ (Kit.I64 x.2.2.1 ∧ Kit.I64 x.2.2.2)))) x.2)) :=
  Open.opens_imp (fun _ h => h) (Open.opens_struct0 Try.underlying33 (by kernel_rfl) (Open.opens_next rfl (by kernel_rfl) (Open.opens_int Try.underlying3) (Open.opens_last rfl (by kernel_rfl) (Open.opens_struct0 Try.underlying24 (by kernel_rfl) (Open.opens_next rfl (by kernel_rfl) (Open.opens_slice Try.underlying22 (by kernel_rfl) RowFnExactPutSave.opens116) (Open.opens_next rfl (by kernel_rfl) (Open.opens_int Try.underlying3) (Open.opens_next rfl (by kernel_rfl) (Open.opens_int Try.underlying3) (Open.opens_last rfl (by kernel_rfl) (Open.opens_int Try.underlying3)))))))))
theorem lifted (os : Os) (started : os.Started) (H : Type) (enc : TypeId × Value → H) :
    ReturnsInHanded {} Try.checked os 6 .any (Rows.fnExactPutSaveSpec.pre6 enc Try.prog Try.f6 Rows.fnExactPutSaveRow.domain false) (Rows.fnExactPutSaveSpec.post enc Try.prog Try.f6 false true false false) := by
  refine returnsInHanded_of_change_sized (C := Try.checked) own started (by kernel_rfl) Try.func6
    (ChangeSpec.witness6 (enc := enc) (C := Try.checked) false ⟨#[], #[.agg #[.int .i64 0, .slice none 0 0, .int .i64 0, .int .i64 0, .int .i64 0]], []⟩ 8 (by kernel_rfl) (by kernel_rfl) (by kernel_rfl) (by kernel_rfl)) ?_
  intro W base args ds gs before hval0 hW hcnd hsz0 _
  have hval : ∀ (j : Nat) t v, Try.f6.params[j]? = some t → args[j]? = some v → Value.okWide Try.prog W .any base t v := hval0
  have hW' := hW
  obtain ⟨p, q, hA0, hV, rfl, hfz, hnd⟩ := hW
  have hA : DataW.TrodAll enc Try.prog W 0 (fun _ => true) true Try.f6.params.toList args.toList ds p := hA0
  rw [Try.params6] at hA hval
  obtain ⟨v0, vs0, d0, ds0, p0, q0, hargs, rfl, rfl, h0, r0⟩ := trodAll_cons hA
  obtain ⟨rfl, rfl, rfl⟩ := trodAll_nil r0
  obtain rfl : args = #[v0] := by cases args; simp_all
  obtain ⟨rfl, rfl⟩ := trodVars_none hV
  have k0_ := h0
  have lt0 : ∀ x ∈ p0, x.block < W.heap.size := by obtain ⟨m, hm⟩ := k0_; exact DataW.trod_lt m _ _ _ hm
  obtain ⟨cs0, rfl, _⟩ := okWide_struct Try.underlying33 (hval 0 33 v0 rfl rfl)
  obtain ⟨x0, K0, w0⟩ : ∃ x, (Kd.pair (Kd.int .i64) (Kd.pair (Kd.slice 116 k116) (Kd.pair (Kd.int .i64) (Kd.pair (Kd.int .i64) (Kd.int .i64))))).K W x cs0.toList ∧ (fun x => (Kit.I64 x.1 ∧ (fun x => ((Kit.AllOf RowFnExactPutSave.W116) x.1 ∧ (Kit.I64 x.2.1 ∧ (Kit.I64 x.2.2.1 ∧ Kit.I64 x.2.2.2)))) x.2)) x := by
    obtain ⟨fuel, hf⟩ := h0
    exact arg0.out hf
  obtain ⟨cs0⟩ := cs0
  simp only at K0
  obtain ⟨_, _, rfl, rfl, ⟨_, _, rfl, ⟨A0_1, c0_1, rfl, hc0_1, hr0_1⟩, ⟨_, _, rfl, rfl, ⟨_, _, rfl, rfl, rfl⟩⟩⟩⟩ := K0
  obtain ⟨k, hk⟩ := Pure.FnExactPutSave x0 w0
  refine (laws_FnExactPutSave.calls k x0.1 _ _ x0.2.1 x0.2.2.1 x0.2.2.2.1 x0.2.2.2.2 true W hr0_1 hc0_1 hk).mono fun e W' ⟨he, bel⟩ => ?_
  subst he
  exact ⟨_, rfl, _, _, _, [], _, [], hW', trodAll_mk1 (shut_bool Try.underlying4 _), (trodAll_cons_mk (Below.trod laidOut (by kernel_rfl) (of_decide_eq_true (by kernel_rfl)) k0_ bel lt0) trodAll_mk0), rfl, bel.frame _, fun h => by cases h⟩
theorem over : Rows.fnExactPutSaveRow.holds Try.pinned (OpenSpec.ofChange Rows.fnExactPutSaveSpec) :=
  OpenClaim.holds_of_wide 6 Try.f6 rfl rfl rfl rfl rfl rfl rfl ⟨rfl, rfl, rfl, rfl, rfl⟩ rfl rfl rfl rfl rfl (by kernel_rfl) Try.func6 (by kernel_rfl)
    (of_decide_eq_true (by kernel_rfl)) (by unfold Func.isWrapper; first | (rw [if_pos (by decide +kernel)]; kernel_rfl) | (rw [if_neg (by decide +kernel)]; exact ⟨rfl, rfl⟩))
    (fun os started H enc _ => lifted os started H enc)
end RowFnExactPutSave
/-- The law's statement. -/
theorem fnExactPutSave_holds : Rows.FnExactPutSaveSaid := RowFnExactPutSave.over
#print axioms fnExactPutSave_holds
end Go.Proofs.Ytengkenhmnpbeaa
