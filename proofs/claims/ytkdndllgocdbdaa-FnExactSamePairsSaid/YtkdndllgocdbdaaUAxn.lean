import Derived.Test.YtkdndllgocdbdaaUp
import Derived.Test.YtkdndllgocdbdaaUAxh
namespace Go.Proofs.Ytkdndllgocdbdaa.C
open Go.RowKit Go.Proofs.YtkdndllgocdbdaaW Go.Proofs.YtkdndllgocdbdaaW.PrintWords Go.Proofs.Ytkdndllgocdbdaa.U
set_option maxHeartbeats 1000000
set_option maxRecDepth 100000
set_option linter.unusedVariables false
set_option linter.unusedSimpArgs false
/-! '!=' of structs of numbers. -/
section
variable {P : Program} {X : Cx} {ops : Array Oper} {o : Oper} {l : List Oper} {σ : St} {K : List (Pre × Eff) → St → Prop} {lg : List (Nat × AV)}
theorem run_neqS {T : TypeId} {x y : Operand} {us vs : Array Value} {r : Bool} {w : World} (hG : P.eqGuardType P.depth T = false) (hE : (Op.equal T (.agg us) (.agg vs)).run P w = .ok r w) : (do eqGuard .neq T x y (.agg us) (.agg vs); binOp .neq T (.agg us) (.agg vs) : Sem Value).run P w = .ok (.bool (!r)) w := by
  simp [eqGuard, binOp, hG, hE]
theorem run_eqlS {T : TypeId} {x y : Operand} {us vs : Array Value} {r : Bool} {w : World} (hG : P.eqGuardType P.depth T = false) (hE : (Op.equal T (.agg us) (.agg vs)).run P w = .ok r w) : (do eqGuard .eql T x y (.agg us) (.agg vs); binOp .eql T (.agg us) (.agg vs) : Sem Value).run P w = .ok (.bool r) w := by
  simp [eqGuard, binOp, hG, hE]
theorem x_neqS (hgo : GOn ops σ o lg) (hd : dstOk o.dst σ.n = true) {op : BinOp} {T yT : TypeId} {x y : Operand} {us vs : List Value} {r : Bool} (ho : o.op = .binOp op T x y yT) (hx : opnd σ.F x = some (.a (us.map SV.c))) (hy : opnd σ.F y = some (.a (vs.map SV.c)))
    (hr : ∀ w, (do eqGuard op T x y (.agg us.toArray) (.agg vs.toArray); binOp op T (.agg us.toArray) (.agg vs.toArray) : Sem Value).run P w = .ok (.bool r) w) (h : LX P X ops l (σ.app o.dst ⟨.o (.c (.bool r)), [], []⟩) (fun C => K ((⟨lg ++ (look x (.a (us.map SV.c)) ++ look y (.a (vs.map SV.c))), []⟩, ⟨.o (.c (.bool r)), [], []⟩) :: C))) : LX P X ops (o :: l) σ K :=
  Lx.val (h := h) hgo.1 hgo.2 hd (mem_app (look_fits hx) (look_fits hy)) no_mem (fun σ1 h1 _ μ ω a w hs => ⟨.bool r, by
    obtain ⟨us', e1, c1⟩ := hs.ev (opnd_of hx (app_l h1))
    obtain ⟨vs', e2, c2⟩ := hs.ev (opnd_of hy (app_r h1))
    have c1' := conL_eq c1
    have c2' := conL_eq c2
    subst c1' c2'
    have := hr w
    unfold execOp
    simp only [ho, e1, e2]
    generalize (do eqGuard op T x y (.agg us'.toArray) (.agg vs'.toArray); binOp op T (.agg us'.toArray) (.agg vs'.toArray) : Sem Value) = s at this ⊢
    simp [this], rfl⟩)
end
end Go.Proofs.Ytkdndllgocdbdaa.C
