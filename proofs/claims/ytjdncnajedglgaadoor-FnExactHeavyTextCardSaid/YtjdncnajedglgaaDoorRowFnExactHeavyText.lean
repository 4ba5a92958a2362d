/- The row of FnExactHeavyText: what the form reads of the arguments, opened; the printed contract; and what is known of the arguments, shut again. Written by this session's own genrow.py. -/
import Derived.Test.YtjdncnajedglgaaDoorRows
import Derived.Test.YtjdncnajedglgaaDoorUYLawHeavyText
import Derived.Test.YtjdncnajedglgaaDoorOpen
import Derived.WalkKit
import Derived.ProofKit
import Derived.OpenShut
import Derived.ShutString
import Derived.ChangeOld
import Derived.Below
import Derived.SizedLaws
import Derived.Test.YtjdncnajedglgaaDoorTie
import Derived.Test.YtjdncnajedglgaaDoorCards
import Derived.LaidMore
import Derived.MakeChecks
import Derived.SevenTiedAt
import Derived.Stop.Joined
import Derived.Stop.LaidErr
import Derived.ChangeVars
import Derived.Lib.LaidTab
namespace Go.Proofs.YtjdncnajedglgaaDoor
open Go.ChangeShapes Go.WideShapes Go.ChangeAt Go.RowKit
open Go.Proofs.YtjdncnajedglgaaDoorW.PrintWords
set_option linter.unusedVariables false
set_option maxRecDepth 100000
namespace RowFnExactHeavyText
theorem opens_kind {P : Program} {t : TypeId} {α β : Type} {d : Kd α} {d' : Kd β} {Wf : α → Prop} (g : α → β) (hk : ∀ w a cs, d.K w a cs → d'.K w (g a) cs) (h : Open.Opens P t d Wf) : Open.Opens P t d' (fun _ => True) :=
  ⟨fun {H enc w base fuel cs x} hx => by
    obtain ⟨a, ha, _⟩ := h.out hx
    exact ⟨g a, hk _ _ _ ha, trivial⟩⟩
theorem opens57 : Open.Opens Tryd.prog 57 C.kSlot (fun _ => True) :=
  opens_kind (fun a => (⟨a.1, a.2⟩ : C.Slot)) (fun w a cs h => by
    obtain ⟨_, _, rfl, rfl, rfl⟩ := h
    rfl) (Open.opens_struct0 Tryd.underlying57 (by kernel_rfl) (Open.opens_next rfl (by kernel_rfl) (Open.opens_int Tryd.underlying3) (Open.opens_last rfl (by kernel_rfl) (Open.opens_int Tryd.underlying3))))
theorem own : ownKnob Tryd.prog.godebug = none := by kernel_rfl
theorem laidOut : laidOutB Tryd.prog = true := by kernel_rfl
theorem arg0 : Open.Opens Tryd.prog 36 (Kd.pair (Kd.int .i64) (Kd.pair (Kd.slice 57 C.kSlot) (Kd.pair (Kd.int .i64) (Kd.int .i64)))) (fun x => (Kit.I64 x.1 ∧ ((Kit.AllOf (fun _ => True)) x.2.1 ∧ (Kit.I64 x.2.2.1 ∧ Kit.I64 x.2.2.2)))) :=
  Open.opens_imp (fun _ h => h) (Open.opens_struct0 Tryd.underlying36 (by kernel_rfl) (Open.opens_next rfl (by kernel_rfl) (Open.opens_int Tryd.underlying3) (Open.opens_next rfl (by kernel_rfl) (Open.opens_slice Tryd.underlying34 (by kernel_rfl) RowFnExactHeavyText.opens57) (Open.opens_next rfl (by kernel_rfl) (Open.opens_int Tryd.underlying3) (Open.opens_last rfl (by kernel_rfl) (Open.opens_int Tryd.underlying3))))))
def laidL : List (String × DataW Unit) := [("math/bits.deBruijn32tab", Rows.laid_math_bits_deBruijn32tab), ("math/bits.deBruijn64tab", Rows.laid_math_bits_deBruijn64tab), ("internal/strconv.uint64pow10", Rows.laid_internal_strconv_uint64pow10)]
theorem door_met (os : Os) (args : Array Value) : laidMetH Tryd.prog laidL ((World.doorLaid Tryd.prog 24 os).forCall (fun _ _ => 0) ⟨#[], args, []⟩).memory :=
  laidMetH_of_parts3 (fuel := 8) (laidMet_of_run' 8 (by kernel_rfl) (by kernel_rfl)) (by kernel_rfl) (by kernel_rfl)
theorem laid_rest {P : Program} {x : String × DataW Unit} {l : List (String × DataW Unit)} {W : World} (h : laidMet P (x :: l) W) : laidMet P l W := h.tail
theorem tab_of {W : World} (h : laidMetH Tryd.prog laidL W) : C.TabW W := by
  rw [MakeChecks.laidMetH_plain _ _ _ (by kernel_rfl)] at h
  have h3 : laidMet Tryd.prog [("internal/strconv.uint64pow10", Lib.tabData .u64 Lib.pow10Tab)] W := h.tail.tail
  exact Lib.tabIs_of_head (g := 0) (t := 68) (e := 61) (n := 20) (by kernel_rfl) (by kernel_rfl) Tryd.underlying68 Tryd.underlying61 (by kernel_rfl) (by kernel_rfl) h3
theorem lifted (os : Os) (started : os.Started) (H : Type) (enc : TypeId × Value → H) :
    ReturnsInHanded {} Tryd.checked os 5 .any (fun w args => (Rows.fnExactHeavyTextSpec.pre enc Tryd.prog Tryd.f5 [] false w args ∧ laidMetH Tryd.prog laidL w) ∧ sizedMet enc Tryd.prog Tryd.f5 (OpenSpec.ofChange Rows.fnExactHeavyTextSpec) false w args) (Rows.fnExactHeavyTextSpec.post enc Tryd.prog Tryd.f5 false true false false) := by
  refine returnsInHanded_of_change_and (C := Tryd.checked) (X := fun w _ => laidMetH Tryd.prog laidL w) (fun _ _ _ hh h => h.of_heap hh) own started (by kernel_rfl) Tryd.func5
    (ChangeSpec.witness_shaped (enc := enc) (C := Tryd.checked) (os := os) (X := fun w _ => laidMetH Tryd.prog laidL w) false (World.doorLaid Tryd.prog 24 os) #[.agg #[.int .i64 0, .slice none 0 0, .int .i64 0, .int .i64 0]] 8 rfl (World.shaped_of_RefB (by kernel_rfl) (by kernel_rfl)) (by kernel_rfl) (by kernel_rfl) (by kernel_rfl) (door_met os _)) ?_
  intro W base args ds gs before hval0 hW hcnd hsz0 hL _
  have hTab := tab_of hL
  have hval : ∀ (j : Nat) t v, Tryd.f5.params[j]? = some t → args[j]? = some v → Value.okWide Tryd.prog W .any base t v := hval0
  have hW' := hW
  obtain ⟨p, q, hA0, hV, rfl, hfz, hnd⟩ := hW
  have hA : DataW.TrodAll enc Tryd.prog W 0 (fun _ => true) true Tryd.f5.params.toList args.toList ds p := hA0
  rw [Tryd.params5] at hA hval
  obtain ⟨v0, vs0, d0, ds0, p0, q0, hargs, rfl, rfl, h0, r0⟩ := trodAll_cons hA
  obtain ⟨rfl, rfl, rfl⟩ := trodAll_nil r0
  obtain rfl : args = #[v0] := by cases args; simp_all
  obtain ⟨rfl, rfl⟩ := trodVars_none hV
  have k0_ := h0
  have lt0 : ∀ x ∈ p0, x.block < W.heap.size := by obtain ⟨m, hm⟩ := k0_; exact DataW.trod_lt m _ _ _ hm
  obtain ⟨cs0, rfl, _⟩ := okWide_struct Tryd.underlying36 (hval 0 36 v0 rfl rfl)
  obtain ⟨x0, K0, w0⟩ : ∃ x, (Kd.pair (Kd.int .i64) (Kd.pair (Kd.slice 57 C.kSlot) (Kd.pair (Kd.int .i64) (Kd.int .i64)))).K W x cs0.toList ∧ (fun x => (Kit.I64 x.1 ∧ ((Kit.AllOf (fun _ => True)) x.2.1 ∧ (Kit.I64 x.2.2.1 ∧ Kit.I64 x.2.2.2)))) x := by
    obtain ⟨fuel, hf⟩ := h0
    exact arg0.out hf
  obtain ⟨cs0⟩ := cs0
  simp only at K0
  obtain ⟨_, _, rfl, rfl, ⟨_, _, rfl, ⟨A0_1, c0_1, rfl, hc0_1, hr0_1⟩, ⟨_, _, rfl, rfl, rfl⟩⟩⟩ := K0
  refine (C.y_lawHeavyText W hTab x0.1 x0.2.1 x0.2.2.1 x0.2.2.2 w0.2.1.1  W [_] (C.Kp.refl W C.No_) ⟨⟨[_, _, _, _], rfl, rfl, ⟨_, _, rfl, hc0_1, hr0_1⟩, rfl, rfl, trivial⟩, trivial⟩).mono fun e W' ⟨v, he, hm, bel⟩ => ?_
  obtain ⟨ow, _, _, hm⟩ := hm
  obtain rfl : v = .bool true := hm
  subst he
  exact ⟨_, rfl, _, _, _, [], _, [], hW', trodAll_mk1 (shut_bool Tryd.underlying4 _), (trodAll_cons_mk (Below.trod laidOut (by kernel_rfl) (of_decide_eq_true (by kernel_rfl)) k0_ bel lt0) trodAll_mk0), rfl, bel.frame _, fun h => by cases h⟩
theorem over : Rows.fnExactHeavyTextRow.holds Tryd.pinned (OpenSpec.ofChange Rows.fnExactHeavyTextSpec) :=
  OpenClaim.holds_of_wide 5 Tryd.f5 rfl rfl rfl rfl rfl rfl rfl ⟨rfl, rfl, rfl, rfl, rfl⟩ rfl rfl rfl rfl rfl (by kernel_rfl) Tryd.func5 (by kernel_rfl)
    (of_decide_eq_true (by kernel_rfl)) (by unfold Func.isWrapper; first | (rw [if_pos (by decide +kernel)]; kernel_rfl) | (rw [if_neg (by decide +kernel)]; exact ⟨rfl, rfl⟩))
    (fun os started H enc _ => lifted os started H enc)
end RowFnExactHeavyText
theorem bare : Rows.FnExactHeavyTextSaid := RowFnExactHeavyText.over
/-- The law's statement: the tied card. -/
theorem fnExactHeavyText_holds : Rows.FnExactHeavyTextCardSaid :=
  Claim7.holds_tied_plain_at .later [] [.data, .data, .data] true (true, "828cfe6adbbbe9256eb3d91d4e6ccbba2347a97ecd56f6b4a053e82f0b21a63f") false
    bare (fun _ h => by cases h) (by kernel_rfl) (fun _ h => by cases h) fnExactHeavyText_row_tie rfl ⟨rfl, rfl⟩ (by kernel_rfl) rfl
    (fun f fn hf hfn => by
      obtain rfl : f = 5 := Option.some.inj ((show Tryd.prog.funcNamed "loop.example/g00728/laws.FnExactHeavyText" = some 5 by kernel_rfl).symm.trans hf) |>.symm
      obtain rfl : fn = Tryd.f5 := (Option.some.inj (Tryd.func5.symm.trans hfn)).symm
      exact ⟨by kernel_rfl, fun j t ht => by
        rw [Tryd.params5] at ht
        have h3 : t = 36 := by
          rcases j with _ | j
          · simpa using ht.symm
          · simp at ht
        subst h3
        exact (show Tryd.prog.wantsStandIn 36 = false by kernel_rfl)⟩)
    (by kernel_rfl)
#print axioms fnExactHeavyText_holds
end Go.Proofs.YtjdncnajedglgaaDoor
