/- The row of FnSlides: what the form reads of the arguments, opened; the printed contract; and what is known of the arguments, shut again. Written by this session's own genrow.py. -/
import Derived.Test.YtplcjkgbjapbmaaRows
import Derived.Test.YtplcjkgbjapbmaaUYLawFnSlides
import Derived.Test.YtplcjkgbjapbmaaOpen
import Derived.WalkKit
import Derived.ProofKit
import Derived.OpenShut
import Derived.ShutString
import Derived.ChangeOld
import Derived.Below
import Derived.SizedLaws
namespace Go.Proofs.Ytplcjkgbjapbmaa
open Go.ChangeShapes Go.WideShapes Go.ChangeAt Go.RowKit
open Go.Proofs.YtplcjkgbjapbmaaW.PrintWords
set_option linter.unusedVariables false
set_option maxRecDepth 100000
namespace RowFnSlides
theorem opens_kind {P : Program} {t : TypeId} {α β : Type} {d : Kd α} {d' : Kd β} {Wf : α → Prop} (g : α → β) (hk : ∀ w a cs, d.K w a cs → d'.K w (g a) cs) (h : Open.Opens P t d Wf) : Open.Opens P t d' (fun _ => True) :=
  ⟨fun {H enc w base fuel cs x} hx => by
    obtain ⟨a, ha, _⟩ := h.out hx
    exact ⟨g a, hk _ _ _ ha, trivial⟩⟩
theorem own : ownKnob Try.prog.godebug = none := by kernel_rfl
theorem laidOut : laidOutB Try.prog = true := by kernel_rfl
theorem arg0 : Open.Opens Try.prog 22 (Kd.slice 5 (Kd.int .u8)) (Kit.AllOf (fun x : Int => 0 ≤ x ∧ x ≤ 255)) :=
  Open.opens_imp (fun _ h => h) (Open.opens_slice Try.underlying22 (by kernel_rfl) (Open.opens_u8 Try.underlying5))
theorem lifted (os : Os) (started : os.Started) (H : Type) (enc : TypeId × Value → H) :
    ReturnsInHanded {} Try.checked os 3 .any (Rows.fnSlidesSpec.pre6 enc Try.prog Try.f3 Rows.fnSlidesRow.domain false) (Rows.fnSlidesSpec.post enc Try.prog Try.f3 false true false false) := by
  refine returnsInHanded_of_change_sized (C := Try.checked) own started (by kernel_rfl) Try.func3
    (ChangeSpec.witness6 (enc := enc) (C := Try.checked) false ⟨#[], #[.slice none 0 0], []⟩ 8 (by kernel_rfl) (by kernel_rfl) (by kernel_rfl) (by kernel_rfl)) ?_
  intro W base args ds gs before hval0 hW hcnd hsz0 _
  have hval : ∀ (j : Nat) t v, Try.f3.params[j]? = some t → args[j]? = some v → Value.okWide Try.prog W .any base t v := hval0
  have hW' := hW
  obtain ⟨p, q, hA0, hV, rfl, hfz, hnd⟩ := hW
  have hA : DataW.TrodAll enc Try.prog W 0 (fun _ => true) true Try.f3.params.toList args.toList ds p := hA0
  rw [Try.params3] at hA hval
  obtain ⟨v0, vs0, d0, ds0, p0, q0, hargs, rfl, rfl, h0, r0⟩ := trodAll_cons hA
  obtain ⟨rfl, rfl, rfl⟩ := trodAll_nil r0
  obtain rfl : args = #[v0] := by cases args; simp_all
  obtain ⟨rfl, rfl⟩ := trodVars_none hV
  have k0_ := h0
  have lt0 : ∀ x ∈ p0, x.block < W.heap.size := by obtain ⟨m, hm⟩ := k0_; exact DataW.trod_lt m _ _ _ hm
  obtain ⟨a_0, len_0, cap_0, rfl⟩ := okWide_slice Try.underlying22 (hval 0 22 v0 rfl rfl)
  obtain ⟨x0, K0, w0⟩ : ∃ x, (Kd.slice 5 (Kd.int .u8)).K W x [Value.slice a_0 len_0 cap_0] ∧ (Kit.AllOf (fun x : Int => 0 ≤ x ∧ x ≤ 255)) x := by
    obtain ⟨fuel, hf⟩ := h0
    exact arg0.out hf
  obtain ⟨A0, c0, e0, hc0, hr0⟩ := K0
  simp only [List.cons.injEq, Value.slice.injEq, and_true] at e0
  obtain ⟨rfl, rfl, rfl⟩ := e0
  refine (C.y_lawFnSlides x0 w0.1 w0.2 W [_] ⟨⟨_, _, rfl, hc0, hr0⟩, trivial⟩).mono fun e W' ⟨v, he, hm, bel⟩ => ?_
  obtain ⟨ow, _, _, hm⟩ := hm
  obtain rfl : v = .bool true := hm
  subst he
  exact ⟨_, rfl, _, _, _, [], _, [], hW', trodAll_mk1 (shut_bool Try.underlying4 _), (trodAll_cons_mk (Below.trod laidOut (by kernel_rfl) (of_decide_eq_true (by kernel_rfl)) k0_ bel lt0) trodAll_mk0), rfl, bel.frame _, fun h => by cases h⟩
theorem over : Rows.fnSlidesRow.holds Try.pinned (OpenSpec.ofChange Rows.fnSlidesSpec) :=
  OpenClaim.holds_of_wide 3 Try.f3 rfl rfl rfl rfl rfl rfl rfl ⟨rfl, rfl, rfl, rfl, rfl⟩ rfl rfl rfl rfl rfl (by kernel_rfl) Try.func3 (by kernel_rfl)
    (of_decide_eq_true (by kernel_rfl)) (by unfold Func.isWrapper; first | (rw [if_pos (by decide +kernel)]; kernel_rfl) | (rw [if_neg (by decide +kernel)]; exact ⟨rfl, rfl⟩))
    (fun os started H enc _ => lifted os started H enc)
end RowFnSlides
/-- The law's statement. -/
theorem fnSlides_holds : Rows.FnSlidesSaid := RowFnSlides.over
#print axioms fnSlides_holds
end Go.Proofs.Ytplcjkgbjapbmaa
