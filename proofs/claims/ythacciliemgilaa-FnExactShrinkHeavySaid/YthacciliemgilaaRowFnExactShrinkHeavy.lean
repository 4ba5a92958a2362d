/- The row of FnExactShrinkHeavy: what the form reads of the arguments, opened; the printed contract; and what is known of the arguments, shut again. Written by this session's own genrow.py. -/
import Derived.Test.YthacciliemgilaaRows
import Derived.Test.YthacciliemgilaaUYLawShrinkHeavy
import Derived.Test.YthacciliemgilaaOpen
import Derived.WalkKit
import Derived.ProofKit
import Derived.OpenShut
import Derived.ShutString
import Derived.ChangeOld
import Derived.Below
import Derived.SizedLaws
namespace Go.Proofs.Ythacciliemgilaa
open Go.ChangeShapes Go.WideShapes Go.ChangeAt Go.RowKit
open Go.Proofs.YthacciliemgilaaW.PrintWords
set_option linter.unusedVariables false
set_option maxRecDepth 100000
namespace RowFnExactShrinkHeavy
theorem opens_kind {P : Program} {t : TypeId} {α β : Type} {d : Kd α} {d' : Kd β} {Wf : α → Prop} (g : α → β) (hk : ∀ w a cs, d.K w a cs → d'.K w (g a) cs) (h : Open.Opens P t d Wf) : Open.Opens P t d' (fun _ => True) :=
  ⟨fun {H enc w base fuel cs x} hx => by
    obtain ⟨a, ha, _⟩ := h.out hx
    exact ⟨g a, hk _ _ _ ha, trivial⟩⟩
theorem opens64 : Open.Opens Try.prog 64 C.kSlot (fun _ => True) :=
  opens_kind (fun a => (⟨a.1, a.2⟩ : C.Slot)) (fun w a cs h => by
    obtain ⟨_, _, rfl, rfl, rfl⟩ := h
    rfl) (Open.opens_struct0 Try.underlying64 (by kernel_rfl) (Open.opens_next rfl (by kernel_rfl) (Open.opens_int Try.underlying3) (Open.opens_last rfl (by kernel_rfl) (Open.opens_int Try.underlying3))))
theorem own : ownKnob Try.prog.godebug = none := by kernel_rfl
theorem laidOut : laidOutB Try.prog = true := by kernel_rfl
theorem arg0 : Open.Opens Try.prog 24 (Kd.pair (Kd.int .i64) (Kd.pair (Kd.slice 64 C.kSlot) (Kd.pair (Kd.int .i64) (Kd.int .i64)))) (fun x => (Kit.I64 x.1 ∧ ((Kit.AllOf (fun _ => True)) x.2.1 ∧ (Kit.I64 x.2.2.1 ∧ Kit.I64 x.2.2.2)))) :=
  Open.opens_imp (fun _ h => h) (Open.opens_struct0 Try.underlying24 (by kernel_rfl) (Open.opens_next rfl (by kernel_rfl) (Open.opens_int Try.underlying3) (Open.opens_next rfl (by kernel_rfl) (Open.opens_slice Try.underlying22 (by kernel_rfl) RowFnExactShrinkHeavy.opens64) (Open.opens_next rfl (by kernel_rfl) (Open.opens_int Try.underlying3) (Open.opens_last rfl (by kernel_rfl) (Open.opens_int Try.underlying3))))))
theorem arg1 : Open.Opens Try.prog 3 (Kd.int .i64) Kit.I64 :=
  Open.opens_imp (fun _ h => h) (Open.opens_int Try.underlying3)
theorem lifted (os : Os) (started : os.Started) (H : Type) (enc : TypeId × Value → H) :
    ReturnsInHanded {} Try.checked os 10 .any (Rows.fnExactShrinkHeavySpec.pre6 enc Try.prog Try.f10 Rows.fnExactShrinkHeavyRow.domain false) (Rows.fnExactShrinkHeavySpec.post enc Try.prog Try.f10 false true false false) := by
  refine returnsInHanded_of_change_sized (C := Try.checked) own started (by kernel_rfl) Try.func10
    (ChangeSpec.witness6 (enc := enc) (C := Try.checked) false ⟨#[], #[.agg #[.int .i64 0, .slice none 0 0, .int .i64 0, .int .i64 0], .int .i64 0], []⟩ 8 (by kernel_rfl) (by kernel_rfl) (by kernel_rfl) (by kernel_rfl)) ?_
  intro W base args ds gs before hval0 hW hcnd hsz0 _
  have hval : ∀ (j : Nat) t v, Try.f10.params[j]? = some t → args[j]? = some v → Value.okWide Try.prog W .any base t v := hval0
  have hW' := hW
  obtain ⟨p, q, hA0, hV, rfl, hfz, hnd⟩ := hW
  have hA : DataW.TrodAll enc Try.prog W 0 (fun _ => true) true Try.f10.params.toList args.toList ds p := hA0
  rw [Try.params10] at hA hval
  obtain ⟨v0, vs0, d0, ds0, p0, q0, hargs, rfl, rfl, h0, r0⟩ := trodAll_cons hA
  obtain ⟨v1, vs1, d1, ds1, p1, q1, rfl, rfl, rfl, h1, r1⟩ := trodAll_cons r0
  obtain ⟨rfl, rfl, rfl⟩ := trodAll_nil r1
  obtain rfl : args = #[v0, v1] := by cases args; simp_all
  obtain ⟨rfl, rfl⟩ := trodVars_none hV
  have k0_ := h0
  have lt0 : ∀ x ∈ p0, x.block < W.heap.size := by obtain ⟨m, hm⟩ := k0_; exact DataW.trod_lt m _ _ _ hm
  obtain ⟨cs0, rfl, _⟩ := okWide_struct Try.underlying24 (hval 0 24 v0 rfl rfl)
  obtain ⟨x0, K0, w0⟩ : ∃ x, (Kd.pair (Kd.int .i64) (Kd.pair (Kd.slice 64 C.kSlot) (Kd.pair (Kd.int .i64) (Kd.int .i64)))).K W x cs0.toList ∧ (fun x => (Kit.I64 x.1 ∧ ((Kit.AllOf (fun _ => True)) x.2.1 ∧ (Kit.I64 x.2.2.1 ∧ Kit.I64 x.2.2.2)))) x := by
    obtain ⟨fuel, hf⟩ := h0
    exact arg0.out hf
  obtain ⟨cs0⟩ := cs0
  simp only at K0
  obtain ⟨_, _, rfl, rfl, ⟨_, _, rfl, ⟨A0_1, c0_1, rfl, hc0_1, hr0_1⟩, ⟨_, _, rfl, rfl, rfl⟩⟩⟩ := K0
  have k1_ := h1
  have lt1 : ∀ x ∈ p1, x.block < W.heap.size := by obtain ⟨m, hm⟩ := k1_; exact DataW.trod_lt m _ _ _ hm
  obtain ⟨a1, rfl, rfl, rfl, wf1⟩ := open_int Try.underlying3 (hval 1 3 v1 rfl rfl) h1
  refine (C.y_lawShrinkHeavy x0.1 x0.2.1 x0.2.2.1 x0.2.2.2 a1 w0.2.1.1 W [_, _] ⟨⟨[_, _, _, _], rfl, rfl, ⟨_, _, rfl, hc0_1, hr0_1⟩, rfl, rfl, trivial⟩, rfl, trivial⟩).mono fun e W' ⟨v, he, hm, bel⟩ => ?_
  obtain ⟨ow, _, _, hm⟩ := hm
  obtain rfl : v = .bool true := hm
  subst he
  exact ⟨_, rfl, _, _, _, [], _, [], hW', trodAll_mk1 (shut_bool Try.underlying4 _), (trodAll_cons_mk (Below.trod laidOut (by kernel_rfl) (of_decide_eq_true (by kernel_rfl)) k0_ bel lt0) (trodAll_cons_mk (shut_int Try.underlying3 wf1) trodAll_mk0)), rfl, bel.frame _, fun h => by cases h⟩
theorem over : Rows.fnExactShrinkHeavyRow.holds Try.pinned (OpenSpec.ofChange Rows.fnExactShrinkHeavySpec) :=
  OpenClaim.holds_of_wide 10 Try.f10 rfl rfl rfl rfl rfl rfl rfl ⟨rfl, rfl, rfl, rfl, rfl⟩ rfl rfl rfl rfl rfl (by kernel_rfl) Try.func10 (by kernel_rfl)
    (of_decide_eq_true (by kernel_rfl)) (by unfold Func.isWrapper; first | (rw [if_pos (by decide +kernel)]; kernel_rfl) | (rw [if_neg (by decide +kernel)]; exact ⟨rfl, rfl⟩))
    (fun os started H enc _ => lifted os started H enc)
end RowFnExactShrinkHeavy
/-- The law's statement. -/
theorem fnExactShrinkHeavy_holds : Rows.FnExactShrinkHeavySaid := RowFnExactShrinkHeavy.over
#print axioms fnExactShrinkHeavy_holds
end Go.Proofs.Ythacciliemgilaa
