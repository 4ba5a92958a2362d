import Derived.Test.YtplcjkgbjapbmaaUp
import Derived.Test.YtplcjkgbjapbmaaWEqStruct
import Derived.Test.YtplcjkgbjapbmaaUAxh
import Derived.Test.YtplcjkgbjapbmaaPSb
import Derived.Test.YtplcjkgbjapbmaaPTy
namespace Go.Proofs.Ytplcjkgbjapbmaa.C
open Go.RowKit Go.Proofs.YtplcjkgbjapbmaaW Go.Proofs.YtplcjkgbjapbmaaW.PrintWords Go.Proofs.Ytplcjkgbjapbmaa.U
set_option maxHeartbeats 1000000
set_option maxRecDepth 100000
set_option linter.unusedVariables false
set_option linter.unusedSimpArgs false
/-! '!=' of structs of numbers. -/
section
variable {P : Program} {X : Cx} {ops : Array Oper} {o : Oper} {l : List Oper} {σ : St} {K : List (Pre × Eff) → St → Prop} {lg : List (Nat × AV)}
theorem run_neqS {T : TypeId} {x y : Operand} {us vs : Array Value} {r : Bool} {w : World} (hG : P.eqGuardType P.depth T = false) (hE : (Op.equal T (.agg us) (.agg vs)).run P w = .ok r w) : (do eqGuard .neq T x y (.agg us) (.agg vs); binOp .neq T (.agg us) (.agg vs) : Sem Value).run P w = .ok (.bool (!r)) w := by
  simp [eqGuard, binOp, hG, hE]
theorem run_eqlS {T : TypeId} {x y : Operand} {us vs : Array Value} {r : Bool} {w : World} (hG : P.eqGuardType P.depth T = false) (hE : (Op.equal T (.agg us) (.agg vs)).run P w = .ok r w) : (do eqGuard .eql T x y (.agg us) (.agg vs); binOp .eql T (.agg us) (.agg vs) : Sem Value).run P w = .ok (.bool r) w := by
  simp [eqGuard, binOp, hG, hE]
theorem x_neqS (hgo : GOn ops σ o lg) (hd : dstOk o.dst σ.n = true) {op : BinOp} {T yT : TypeId} {x y : Operand} {us vs : List Value} {r : Bool} (ho : o.op = .binOp op T x y yT) (hx : opnd σ.F x = some (.a (us.map SV.c))) (hy : opnd σ.F y = some (.a (vs.map SV.c)))
    (hr : ∀ w, (do eqGuard op T x y (.agg us.toArray) (.agg vs.toArray); binOp op T (.agg us.toArray) (.agg vs.toArray) : Sem Value).run P w = .ok (.bool r) w) (h : LX P X ops l (σ.app o.dst ⟨.o (.c (.bool r)), [], []⟩) (fun C => K ((⟨lg ++ (look x (.a (us.map SV.c)) ++ look y (.a (vs.map SV.c))), []⟩, ⟨.o (.c (.bool r)), [], []⟩) :: C))) : LX P X ops (o :: l) σ K :=
  Lx.val (h := h) hgo.1 hgo.2 hd (mem_app (look_fits hx) (look_fits hy)) no_mem (fun σ1 h1 _ μ ω a w hs => ⟨.bool r, by
    obtain ⟨us', e1, c1⟩ := hs.ev (opnd_of hx (app_l h1))
    obtain ⟨vs', e2, c2⟩ := hs.ev (opnd_of hy (app_r h1))
    have c1' := conL_eq c1
    have c2' := conL_eq c2
    subst c1' c2'
    have := hr w
    unfold execOp
    simp only [ho, e1, e2]
    generalize (do eqGuard op T x y (.agg us'.toArray) (.agg vs'.toArray); binOp op T (.agg us'.toArray) (.agg vs'.toArray) : Sem Value) = s at this ⊢
    simp [this], rfl⟩)
end
def sortP (l : List Pair) : List Pair := if l.length ≤ 1600 then sortL pairLt l else []
theorem sortP_len (l : List Pair) : (sortP l).length ≤ 1600 := by
  unfold sortP
  split
  · rw [sortL_len]; assumption
  · simp
theorem lexLt_step {X Y : List Int} {k : Nat} {a b : Int} (hx : X[k]? = some a) (hy : Y[k]? = some b) : lexLt (X.drop k) (Y.drop k) = if a = b then lexLt (X.drop (k + 1)) (Y.drop (k + 1)) else decide (a < b) := by
  obtain ⟨h1, rfl⟩ := List.getElem?_eq_some_iff.1 hx
  obtain ⟨h2, rfl⟩ := List.getElem?_eq_some_iff.1 hy
  rw [List.drop_eq_getElem_cons h1, List.drop_eq_getElem_cons h2, lexLt]
def samePre {α : Type} (X Y : List α) (k : Nat) : Prop := ∀ j, j < k → X[j]? = Y[j]?
theorem samePre_succ {α : Type} {X Y : List α} {k : Nat} (h : samePre X Y k) (e : X[k]? = Y[k]?) : samePre X Y (k + 1) := fun j hj => by
  rcases Nat.lt_or_ge j k with h1 | h1
  · exact h j h1
  · obtain rfl : j = k := by omega
    exact e
theorem samePre_eq {α : Type} {X Y : List α} (h : samePre X Y X.length) (hl : X.length = Y.length) : X = Y := by
  apply List.ext_getElem?
  intro j
  rcases Nat.lt_or_ge j X.length with h1 | h1
  · exact h j h1
  · rw [List.getElem?_eq_none h1, List.getElem?_eq_none (by omega)]
theorem Agg.ext6 {x y : Agg} (h : x.win = y.win ∧ x.key = y.key ∧ x.count = y.count ∧ x.sum = y.sum ∧ x.min = y.min ∧ x.max = y.max) : x = y := by
  obtain ⟨x0, x1, x2, x3, x4, x5⟩ := x
  obtain ⟨y0, y1, y2, y3, y4, y5⟩ := y
  simp_all
theorem eqA_Agg (d : Nat) (w : World) (x y : Agg) : (Op.equalIn (d + 2) 55 (.agg x.enc.toArray) (.agg y.enc.toArray)).run Try.prog w = .ok (decide (x = y)) w := by
  have e : decide (x = y) = (x.win == y.win && (x.key == y.key && (x.count == y.count && (x.sum == y.sum && (x.min == y.min && (x.max == y.max)))))) := by
    rw [Bool.eq_iff_iff, decide_eq_true_iff]
    simp only [Bool.and_eq_true, beq_iff_eq]
    exact ⟨fun h => by subst h; simp, fun h => Agg.ext6 h⟩
  rw [e]
  obtain ⟨x0, x1, x2, x3, x4, x5⟩ := x
  obtain ⟨y0, y1, y2, y3, y4, y5⟩ := y
  show (Op.equalIn (d + 2) 55 (.agg #[.int .i64 x0, .int .i64 x1, .int .i64 x2, .int .i64 x3, .int .i64 x4, .int .i64 x5]) (.agg #[.int .i64 y0, .int .i64 y1, .int .i64 y2, .int .i64 y3, .int .i64 y4, .int .i64 y5])).run Try.prog w = _
  refine eqA_of Try.underlying55 (by kernel_rfl) ?_
  refine eqf_cons (by rfl) (by go_simp; rfl) (by go_simp; rfl) (by go_simp) ?_
  refine eqf_cons (by rfl) (by go_simp; rfl) (by go_simp; rfl) (by go_simp) ?_
  refine eqf_cons (by rfl) (by go_simp; rfl) (by go_simp; rfl) (by go_simp) ?_
  refine eqf_cons (by rfl) (by go_simp; rfl) (by go_simp; rfl) (by go_simp) ?_
  refine eqf_cons (by rfl) (by go_simp; rfl) (by go_simp; rfl) (by go_simp) ?_
  exact eqf_last (by rfl) (by go_simp; rfl) (by go_simp; rfl) (by go_simp)
theorem neq_Agg (X Y : Operand) (x y : Agg) (w : World) : (do eqGuard .neq 55 X Y (.agg x.enc.toArray) (.agg y.enc.toArray); binOp .neq 55 (.agg x.enc.toArray) (.agg y.enc.toArray) : Sem Value).run Try.prog w = .ok (.bool (!decide (x = y))) w :=
  run_neqS (by kernel_rfl) (eqA_Agg 9998 w x y)
end Go.Proofs.Ytplcjkgbjapbmaa.C
