/- The row of FnExactLongestSession: what the form reads of the arguments, opened; the printed contract; and what is known of the arguments, shut again. Written by this session's own genrow.py. -/
import Derived.Test.YtichhhmfihhplaaRows
import Derived.Test.YtichhhmfihhplaaPFnExactLongestSessionx2
import Derived.Test.YtichhhmfihhplaaPureFnExactLongestSession
import Derived.Test.YtichhhmfihhplaaOpen
import Derived.WalkKit
import Derived.ProofKit
import Derived.OpenShut
import Derived.ShutString
import Derived.ChangeOld
import Derived.Below
import Derived.SizedLaws
namespace Go.Proofs.Ytichhhmfihhplaa
open Go.ChangeShapes Go.WideShapes Go.ChangeAt Go.RowKit
open Go.Proofs.YtichhhmfihhplaaW.PrintWords Go.Proofs.Ytichhhmfihhplaa.PFnExactLongestSession
set_option linter.unusedVariables false
set_option maxRecDepth 100000
namespace RowFnExactLongestSession
def W68 (x : S68) : Prop := Kit.I64 x.f0 ∧ Kit.I64 x.f1 ∧ Kit.I64 x.f2 ∧ Kit.I64 x.f3 ∧ Kit.I64 x.f4
theorem opens68 : Open.Opens Try.prog 68 k68 RowFnExactLongestSession.W68 :=
  Open.opens_imp (fun _ h => h) (Open.opens_struct (fun x : S68 => (x.f0, x.f1, x.f2, x.f3, x.f4)) (fun a => ⟨a.1, a.2.1, a.2.2.1, a.2.2.2.1, a.2.2.2.2⟩) (fun _ => rfl) Try.underlying68 (by kernel_rfl) (Open.opens_next rfl (by kernel_rfl) (Open.opens_int Try.underlying3) (Open.opens_next rfl (by kernel_rfl) (Open.opens_int Try.underlying3) (Open.opens_next rfl (by kernel_rfl) (Open.opens_int Try.underlying3) (Open.opens_next rfl (by kernel_rfl) (Open.opens_int Try.underlying3) (Open.opens_last rfl (by kernel_rfl) (Open.opens_int Try.underlying3)))))))
theorem own : ownKnob Try.prog.godebug = none := by kernel_rfl
theorem laidOut : laidOutB Try.prog = true := by kernel_rfl
theorem arg0 : Open.Opens Try.prog 50 (Kd.slice 68 k68) (Kit.AllOf RowFnExactLongestSession.W68) :=
  Open.opens_imp (fun _ h => h) (Open.opens_slice Try.underlying50 (by kernel_rfl) RowFnExactLongestSession.opens68)
theorem lifted (os : Os) (started : os.Started) (H : Type) (enc : TypeId × Value → H) :
    ReturnsInHanded {} Try.checked os 8 .any (Rows.fnExactLongestSessionSpec.pre6 enc Try.prog Try.f8 Rows.fnExactLongestSessionRow.domain false) (Rows.fnExactLongestSessionSpec.post enc Try.prog Try.f8 false true false false) := by
  refine returnsInHanded_of_change_sized (C := Try.checked) own started (by kernel_rfl) Try.func8
    (ChangeSpec.witness6 (enc := enc) (C := Try.checked) false ⟨#[], #[.slice none 0 0], []⟩ 8 (by kernel_rfl) (by kernel_rfl) (by kernel_rfl) (by kernel_rfl)) ?_
  intro W base args ds gs before hval0 hW hcnd hsz0 _
  have hval : ∀ (j : Nat) t v, Try.f8.params[j]? = some t → args[j]? = some v → Value.okWide Try.prog W .any base t v := hval0
  have hW' := hW
  obtain ⟨p, q, hA0, hV, rfl, hfz, hnd⟩ := hW
  have hA : DataW.TrodAll enc Try.prog W 0 (fun _ => true) true Try.f8.params.toList args.toList ds p := hA0
  rw [Try.params8] at hA hval
  obtain ⟨v0, vs0, d0, ds0, p0, q0, hargs, rfl, rfl, h0, r0⟩ := trodAll_cons hA
  obtain ⟨rfl, rfl, rfl⟩ := trodAll_nil r0
  obtain rfl : args = #[v0] := by cases args; simp_all
  obtain ⟨rfl, rfl⟩ := trodVars_none hV
  have k0_ := h0
  have lt0 : ∀ x ∈ p0, x.block < W.heap.size := by obtain ⟨m, hm⟩ := k0_; exact DataW.trod_lt m _ _ _ hm
  obtain ⟨a_0, len_0, cap_0, rfl⟩ := okWide_slice Try.underlying50 (hval 0 50 v0 rfl rfl)
  obtain ⟨x0, K0, w0⟩ : ∃ x, (Kd.slice 68 k68).K W x [Value.slice a_0 len_0 cap_0] ∧ (Kit.AllOf RowFnExactLongestSession.W68) x := by
    obtain ⟨fuel, hf⟩ := h0
    exact arg0.out hf
  obtain ⟨A0, c0, e0, hc0, hr0⟩ := K0
  simp only [List.cons.injEq, Value.slice.injEq, and_true] at e0
  obtain ⟨rfl, rfl, rfl⟩ := e0
  obtain ⟨k, hk⟩ := Pure.FnExactLongestSession x0 w0
  refine (laws_FnExactLongestSession.calls k _ _ x0 true W hr0 hc0 hk).mono fun e W' ⟨he, bel⟩ => ?_
  subst he
  exact ⟨_, rfl, _, _, _, [], _, [], hW', trodAll_mk1 (shut_bool Try.underlying4 _), (trodAll_cons_mk (Below.trod laidOut (by kernel_rfl) (of_decide_eq_true (by kernel_rfl)) k0_ bel lt0) trodAll_mk0), rfl, bel.frame _, fun h => by cases h⟩
theorem over : Rows.fnExactLongestSessionRow.holds Try.pinned (OpenSpec.ofChange Rows.fnExactLongestSessionSpec) :=
  OpenClaim.holds_of_wide 8 Try.f8 rfl rfl rfl rfl rfl rfl rfl ⟨rfl, rfl, rfl, rfl, rfl⟩ rfl rfl rfl rfl rfl (by kernel_rfl) Try.func8 (by kernel_rfl)
    (of_decide_eq_true (by kernel_rfl)) (by unfold Func.isWrapper; first | (rw [if_pos (by decide +kernel)]; kernel_rfl) | (rw [if_neg (by decide +kernel)]; exact ⟨rfl, rfl⟩))
    (fun os started H enc _ => lifted os started H enc)
end RowFnExactLongestSession
/-- The law's statement. -/
theorem fnExactLongestSession_holds : Rows.FnExactLongestSessionSaid := RowFnExactLongestSession.over
#print axioms fnExactLongestSession_holds
end Go.Proofs.Ytichhhmfihhplaa
