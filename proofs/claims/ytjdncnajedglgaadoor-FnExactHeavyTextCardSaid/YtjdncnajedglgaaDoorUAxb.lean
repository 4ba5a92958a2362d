import Derived.Test.YtjdncnajedglgaaDoorUp
import Derived.Test.YtjdncnajedglgaaDoorPMb
namespace Go.Proofs.YtjdncnajedglgaaDoor.C
open Go.RowKit Go.Proofs.YtjdncnajedglgaaDoorW Go.Proofs.YtjdncnajedglgaaDoorW.PrintWords Go.Proofs.YtjdncnajedglgaaDoor.U
set_option maxHeartbeats 1000000
set_option maxRecDepth 100000
set_option linter.unusedVariables false
set_option linter.unusedSimpArgs false
/-! Contracts that hold in all worlds that come out of a world B by growing alone. -/
section
variable {P : Program} {f : FuncId} {args : List Arg} {r : Res} {B : World}
def FnRB (B : World) (P : Program) (f : FuncId) (args : List Arg) (r : Res) : Prop := ∀ w vs, Kp B w No_ → okA w args vs → Calls P f vs.toArray w (fun e w' => ∃ v, e = .returned v ∧ Made w.heap.size w' r v ∧ Below w.heap.size w w')
theorem FnR.b (h : FnR P f args r) : FnRB B P f args r := fun w vs _ hok => h w vs hok
theorem fnRB_of_ax {fn : Func} {c : Code} {n : Nat} (hf : P.funcs[f]? = some fn) (hb : fn.body = some c) (hnt : fn.ntmps = n) (hle : Nat.ble args.length n = true) (h : ∀ w, Kp B w No_ → AX P ⟨w, No_, []⟩ c (St.enter n args) (Ends P ⟨w, No_, []⟩ fn (Answers w r))) : FnRB B P f args r := fun w vs hB hok => by
  have hn : args.length + (fn.ntmps - args.length) = n := by rw [hnt]; have := Nat.le_of_ble_eq_true hle; omega
  obtain ⟨μ, ω, hs⟩ := enter_sat (w := w) hn hok
  refine calls_of_ax (S := No_) (σ := St.enter n args) (μ := μ) (ω := ω) hf hb ?_ (h w hB)
  rw [← okA_len hok] at hs
  simpa using hs
end
section
variable {P : Program} {X : Cx} {ops : Array Oper} {o : Oper} {l : List Oper} {σ : St} {K : List (Pre × Eff) → St → Prop} {lg : List (Nat × AV)}
variable (hgo : GOn ops σ o lg) (hd : dstOk o.dst σ.n = true)
include hgo hd
theorem x_callB {f nid : Nat} {fn : Func} {xs : List Operand} {ts : Array TypeId} {avs : List (Nat × AV)} {args : List Arg} {r : Res} (hS : ∀ k, X.S k → No_ k) (hc : FnRB X.w0 P f args r) (ho : o.op = .call { callee := .value (.func f), args := xs.toArray, argTypes := ts }) (hid0 : o.dst = some nid)
    (hf : P.funcs[f]? = some fn) (hname : (fn.name == "runtime.NumGoroutine") = false) (hb : fn.body.isSome = true) (hx : opndL σ.F (numL xs) = some avs) (hm : AsMatch σ.H avs args (phT σ.H avs args)) (hnew : (rngL (100000 + 10 * nid) r.cnt).all (fun k => !σ.D k) = true)
    (h : LX P X ops l (σ.app o.dst ⟨r.av (100000 + 10 * nid), someL (r.objs (100000 + 10 * nid)), trueL (r.objs (100000 + 10 * nid))⟩) (fun C => K ((⟨lg ++ lookL (numL xs) avs, phT σ.H avs args⟩, ⟨r.av (100000 + 10 * nid), someL (r.objs (100000 + 10 * nid)), trueL (r.objs (100000 + 10 * nid))⟩) :: C))) : LX P X ops (o :: l) σ K :=
  Lx.run (h := h) (e := ⟨r.av (100000 + 10 * nid), someL (r.objs (100000 + 10 * nid)), trueL (r.objs (100000 + 10 * nid))⟩) hgo.1 hgo.2 (lookL_fits hx) hm.fits (fun q hq => by
      have hk : q.1 ∈ rngL (100000 + 10 * nid) r.cnt := by rw [← keys_res]; exact List.mem_map_of_mem hq
      have := List.all_eq_true.1 hnew _ hk
      simpa using this) (fun σ1 hn1 h1 h2 h3 μ ω a w hs1 K Q hK => by
    have hargs := (hm.of h2).ok hs1 (hs1.evL (opndL_of hx h1))
    rw [numL_map] at hargs
    have he := PrintLast.enters_ hf hname hb (xs.map a.eval).toArray w
    have hrun : (execOp a.eval o).run P w = .ok (.enter f (xs.map a.eval).toArray) w := by
      unfold execOp
      simp [ho, resolve, Deferred.ofValue, invoke, Act.eval]
      simpa [Act.eval] using he
    unfold Oper.wp
    rw [hrun]
    refine (hc w _ (hs1.kept.mono hS) hargs).mono (fun e w' hr => ?_)
    obtain ⟨v, rfl, ⟨ow, ho1, ho2, hmade⟩, hbel⟩ := hr
    have hs2 : Sat X σ1 μ ω a w' := hs1.drew (Kp.of_below hbel _)
    obtain ⟨μ2, ω2, _, hcon, hs3⟩ := Res.add (b := w.heap.size) (ow := ow) (fun j k hk => .inr (Nat.le_trans hs1.kept.size (ho1 j k hk).1)) ho1 ho2 (n := 100000 + 10 * nid) hs2 (fun id oo hid k hk => .inl (hs1.own id oo hid k hk).2) hmade (fun k hk1 hk2 => by
      have hk : k ∈ (trueL (r.objs (100000 + 10 * nid))).map (·.1) := by rw [keys_res]; exact rngL_mem hk1 hk2
      obtain ⟨q, hq, e⟩ := List.mem_map.1 hk
      rw [← e]
      exact h3 q hq)
    exact hK _ _ _ _ (hs3.put (dstOk_spec (hn1 ▸ hd)) hcon))
end
end Go.Proofs.YtjdncnajedglgaaDoor.C
