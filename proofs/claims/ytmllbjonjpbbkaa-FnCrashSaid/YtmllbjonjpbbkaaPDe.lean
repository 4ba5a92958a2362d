import Derived.Test.YtmllbjonjpbbkaaUp
import Derived.Test.YtmllbjonjpbbkaaWEqStruct
import Derived.Test.YtmllbjonjpbbkaaUAxh
import Derived.Test.YtmllbjonjpbbkaaPSb
import Derived.Test.YtmllbjonjpbbkaaPTy
import Derived.Test.YtmllbjonjpbbkaaPDd
namespace Go.Proofs.Ytmllbjonjpbbkaa.C
open Go.RowKit Go.Proofs.YtmllbjonjpbbkaaW Go.Proofs.YtmllbjonjpbbkaaW.PrintWords Go.Proofs.Ytmllbjonjpbbkaa.U
set_option maxHeartbeats 1000000
set_option maxRecDepth 100000
set_option linter.unusedVariables false
set_option linter.unusedSimpArgs false
/-! '!=' of structs of numbers. -/
section
variable {P : Program} {X : Cx} {ops : Array Oper} {o : Oper} {l : List Oper} {σ : St} {K : List (Pre × Eff) → St → Prop} {lg : List (Nat × AV)}
theorem run_neqS {T : TypeId} {x y : Operand} {us vs : Array Value} {r : Bool} {w : World} (hG : P.eqGuardType P.depth T = false) (hE : (Op.equal T (.agg us) (.agg vs)).run P w = .ok r w) : (do eqGuard .neq T x y (.agg us) (.agg vs); binOp .neq T (.agg us) (.agg vs) : Sem Value).run P w = .ok (.bool (!r)) w := by
  simp [eqGuard, binOp, hG, hE]
theorem run_eqlS {T : TypeId} {x y : Operand} {us vs : Array Value} {r : Bool} {w : World} (hG : P.eqGuardType P.depth T = false) (hE : (Op.equal T (.agg us) (.agg vs)).run P w = .ok r w) : (do eqGuard .eql T x y (.agg us) (.agg vs); binOp .eql T (.agg us) (.agg vs) : Sem Value).run P w = .ok (.bool r) w := by
  simp [eqGuard, binOp, hG, hE]
theorem x_neqS (hgo : GOn ops σ o lg) (hd : dstOk o.dst σ.n = true) {op : BinOp} {T yT : TypeId} {x y : Operand} {us vs : List Value} {r : Bool} (ho : o.op = .binOp op T x y yT) (hx : opnd σ.F x = some (.a (us.map SV.c))) (hy : opnd σ.F y = some (.a (vs.map SV.c)))
    (hr : ∀ w, (do eqGuard op T x y (.agg us.toArray) (.agg vs.toArray); binOp op T (.agg us.toArray) (.agg vs.toArray) : Sem Value).run P w = .ok (.bool r) w) (h : LX P X ops l (σ.app o.dst ⟨.o (.c (.bool r)), [], []⟩) (fun C => K ((⟨lg ++ (look x (.a (us.map SV.c)) ++ look y (.a (vs.map SV.c))), []⟩, ⟨.o (.c (.bool r)), [], []⟩) :: C))) : LX P X ops (o :: l) σ K :=
  Lx.val (h := h) hgo.1 hgo.2 hd (mem_app (look_fits hx) (look_fits hy)) no_mem (fun σ1 h1 _ μ ω a w hs => ⟨.bool r, by
    obtain ⟨us', e1, c1⟩ := hs.ev (opnd_of hx (app_l h1))
    obtain ⟨vs', e2, c2⟩ := hs.ev (opnd_of hy (app_r h1))
    have c1' := conL_eq c1
    have c2' := conL_eq c2
    subst c1' c2'
    have := hr w
    unfold execOp
    simp only [ho, e1, e2]
    generalize (do eqGuard op T x y (.agg us'.toArray) (.agg vs'.toArray); binOp op T (.agg us'.toArray) (.agg vs'.toArray) : Sem Value) = s at this ⊢
    simp [this], rfl⟩)
end
def sortP (l : List Pair) : List Pair := if l.length ≤ 1600 then sortL pairLt l else []
theorem sortP_len (l : List Pair) : (sortP l).length ≤ 1600 := by
  unfold sortP
  split
  · rw [sortL_len]; assumption
  · simp
theorem lexLt_step {X Y : List Int} {k : Nat} {a b : Int} (hx : X[k]? = some a) (hy : Y[k]? = some b) : lexLt (X.drop k) (Y.drop k) = if a = b then lexLt (X.drop (k + 1)) (Y.drop (k + 1)) else decide (a < b) := by
  obtain ⟨h1, rfl⟩ := List.getElem?_eq_some_iff.1 hx
  obtain ⟨h2, rfl⟩ := List.getElem?_eq_some_iff.1 hy
  rw [List.drop_eq_getElem_cons h1, List.drop_eq_getElem_cons h2, lexLt]
def samePre {α : Type} (X Y : List α) (k : Nat) : Prop := ∀ j, j < k → X[j]? = Y[j]?
theorem samePre_succ {α : Type} {X Y : List α} {k : Nat} (h : samePre X Y k) (e : X[k]? = Y[k]?) : samePre X Y (k + 1) := fun j hj => by
  rcases Nat.lt_or_ge j k with h1 | h1
  · exact h j h1
  · obtain rfl : j = k := by omega
    exact e
theorem samePre_eq {α : Type} {X Y : List α} (h : samePre X Y X.length) (hl : X.length = Y.length) : X = Y := by
  apply List.ext_getElem?
  intro j
  rcases Nat.lt_or_ge j X.length with h1 | h1
  · exact h j h1
  · rw [List.getElem?_eq_none h1, List.getElem?_eq_none (by omega)]
theorem Agg.ext6 {x y : Agg} (h : x.win = y.win ∧ x.key = y.key ∧ x.count = y.count ∧ x.sum = y.sum ∧ x.min = y.min ∧ x.max = y.max) : x = y := by
  obtain ⟨x0, x1, x2, x3, x4, x5⟩ := x
  obtain ⟨y0, y1, y2, y3, y4, y5⟩ := y
  simp_all
theorem eqA_Agg (d : Nat) (w : World) (x y : Agg) : (Op.equalIn (d + 2) 92 (.agg x.enc.toArray) (.agg y.enc.toArray)).run Try.prog w = .ok (decide (x = y)) w := by
  have e : decide (x = y) = (x.win == y.win && (x.key == y.key && (x.count == y.count && (x.sum == y.sum && (x.min == y.min && (x.max == y.max)))))) := by
    rw [Bool.eq_iff_iff, decide_eq_true_iff]
    simp only [Bool.and_eq_true, beq_iff_eq]
    exact ⟨fun h => by subst h; simp, fun h => Agg.ext6 h⟩
  rw [e]
  obtain ⟨x0, x1, x2, x3, x4, x5⟩ := x
  obtain ⟨y0, y1, y2, y3, y4, y5⟩ := y
  show (Op.equalIn (d + 2) 92 (.agg #[.int .i64 x0, .int .i64 x1, .int .i64 x2, .int .i64 x3, .int .i64 x4, .int .i64 x5]) (.agg #[.int .i64 y0, .int .i64 y1, .int .i64 y2, .int .i64 y3, .int .i64 y4, .int .i64 y5])).run Try.prog w = _
  refine eqA_of Try.underlying92 (by kernel_rfl) ?_
  refine eqf_cons (by rfl) (by go_simp; rfl) (by go_simp; rfl) (by go_simp) ?_
  refine eqf_cons (by rfl) (by go_simp; rfl) (by go_simp; rfl) (by go_simp) ?_
  refine eqf_cons (by rfl) (by go_simp; rfl) (by go_simp; rfl) (by go_simp) ?_
  refine eqf_cons (by rfl) (by go_simp; rfl) (by go_simp; rfl) (by go_simp) ?_
  refine eqf_cons (by rfl) (by go_simp; rfl) (by go_simp; rfl) (by go_simp) ?_
  exact eqf_last (by rfl) (by go_simp; rfl) (by go_simp; rfl) (by go_simp)
theorem neq_Agg (X Y : Operand) (x y : Agg) (w : World) : (do eqGuard .neq 92 X Y (.agg x.enc.toArray) (.agg y.enc.toArray); binOp .neq 92 (.agg x.enc.toArray) (.agg y.enc.toArray) : Sem Value).run Try.prog w = .ok (.bool (!decide (x = y))) w :=
  run_neqS (by kernel_rfl) (eqA_Agg 9998 w x y)
theorem y_EqualAgg (l m : List Agg) (hn : l.length ≤ 2000000) : FnR Try.prog 54 [.o (.r kAgg 92 l), .o (.r kAgg 92 m)] (.one (.o (.c (.bool (decide (l = m)))))) := by
  by_cases hl : l.length = m.length
  rotate_left
  · have hd : ((l.length : Int) != (m.length : Int)) = true := by simp; omega
    rw [decide_eq_false (fun e => hl (by rw [e]))]
    refine fnR_of_ax Try.func54 rfl Try.ntmps54 rfl (fun w => ?_)
    (repeat (first | (with_reducible first | refine then_normal ?_ | refine then_ret ?_ | refine ax_seq ?_ | refine ax_plain ?_ | refine ax_ret ?_ | refine LX.nil ?_) | refine ax_condT rfl ?_ | (refine withG (by first | exact gon_none rfl | exact gon_some rfl rfl rfl) (fun hg => ?_); (first | (refine gate gCmp rfl ?_; refine x_binH hg rfl rfl rfl rfl (fun _ => rfl) (by assumption) ?_) | refine Lx.move hg rfl rfl rfl ?_ | refine Lx.assign hg rfl rfl rfl ?_ | (refine gate gBuiltin rfl ?_; refine x_len hg rfl rfl rfl rfl (by first | exact .ro | exact .row _) ?_)); clear hg)))
    (refine ends_res1 Try.results54 (by first | exact item_tmp rfl | exact item_cellS rfl rfl rfl | exact item_cellO rfl rfl) ?_ ?_; (repeat (first | exact .nil | refine .cons ?_ ?_ | refine .o ?_ | refine .a ?_ | exact .c rfl | exact .r (by rfl) rfl | exact .nil _ _ rfl | (refine .c ?_; rotate_left) | (refine .r (by rfl) ?_; rotate_left) | (refine .nil _ _ ?_; rotate_left))); all_goals (try rfl))
  have hd : ((l.length : Int) != (m.length : Int)) = false := by simp; omega
  refine fnR_of_ax Try.func54 rfl Try.ntmps54 rfl (fun w => ?_)
  (repeat (first | (with_reducible first | refine then_normal ?_ | refine ax_seq ?_ | refine ax_plain ?_ | refine ax_block ?_ | refine ax_skip ?_ | refine LX.nil ?_) | refine ax_condF rfl ?_ | (refine withG (by first | exact gon_none rfl | exact gon_some rfl rfl rfl) (fun hg => ?_); (first | (refine gate gCmp rfl ?_; refine x_binH hg rfl rfl rfl rfl (fun _ => rfl) (by assumption) ?_) | refine Lx.move hg rfl rfl rfl ?_ | refine Lx.assign hg rfl rfl rfl ?_ | (refine gate gBuiltin rfl ?_; refine x_len hg rfl rfl rfl rfl (by first | exact .ro | exact .row _) ?_)); clear hg)))
  refine ax_loop (γ := Nat) (fun k => St.of 26 [(0, .o (.i 1000)), (1, .o (.i 1001)), (12, .o (.c (.int .i64 (l.length : Int)))), (13, .o (.c (.int .i64 (k : Int))))] [(1000, .ro kAgg l), (1001, .ro kAgg m)]) (fun k => k ≤ l.length ∧ samePre l m k) (fun k => l.length - k) 0 (ρ0 := renL []) ⟨Nat.zero_le _, fun j hj => absurd hj (Nat.not_lt_zero _)⟩ (Sub.of rfl ?_ ?_ rfl) rfl (fun k hk => ?_)
  · (repeat (first | exact trivial | refine ⟨⟨rfl, rfl⟩, ?_⟩ | (refine ⟨⟨?_, rfl⟩, ?_⟩; rotate_left)))
  · (repeat (first | exact trivial | refine ⟨⟨rfl, rfl⟩, ?_⟩ | (refine ⟨⟨?_, rfl⟩, ?_⟩; rotate_left)))
  obtain ⟨hk, hp⟩ := hk
  (repeat (first | (with_reducible first | refine then_normal ?_ | refine ax_seq ?_ | refine ax_plain ?_ | refine LX.nil ?_) | (refine withG (by first | exact gon_none rfl | exact gon_some rfl rfl rfl) (fun hg => ?_); (first | refine Lx.bin hg rfl rfl rfl rfl (fun _ => rfl) ?_); clear hg)))
  refine ax_cond rfl (fun hlt => ?_) (fun hlt => ?_)
  · have hlt' : k < l.length := by simpa using hlt
    obtain ⟨x, hx⟩ := elt hlt'
    obtain ⟨y, hy⟩ := elt (l := m) (k := k) (by omega)
    by_cases he : x = y
    · have hd2 : (!decide (x = y)) = false := by simp [he]
      (repeat (first | (with_reducible first | refine then_normal ?_ | refine out_normal ?_ | refine ax_seq ?_ | refine ax_plain ?_ | refine ax_drawn (by kernel_rfl) ?_ | refine ax_block ?_ | refine ax_skip ?_ | refine LX.nil ?_) | refine And.intro (by kernel_rfl) ?_ | refine ax_condHF rfl (by assumption) ?_ | (refine withG (by first | exact gon_none rfl | exact gon_some rfl rfl rfl) (fun hg => ?_); (first | refine x_neqS hg rfl rfl rfl rfl (fun w => neq_Agg _ _ x y w) ?_ | refine Lx.move hg rfl rfl rfl ?_ | refine Lx.assign hg rfl rfl rfl ?_ | (refine gate gIndex rfl ?_; refine x_index hg rfl rfl rfl rfl rfl (by first | exact .ro | exact .row _) (by rfl) (by first | rfl | assumption) (by first | assumption | omega | (simp only [List.length_set]; first | assumption | omega)) ?_) | (refine gate gLoad rfl ?_; refine x_loadE hg rfl rfl rfl rfl (by first | exact .ro | exact .row _) (by first | assumption | exact set_get (by first | assumption | omega | (simp only [List.length_set]; first | assumption | omega))) (by rfl) ?_) | refine x_add hg rfl rfl rfl rfl (by omega) ?_); clear hg)))
      refine ⟨k + 1, renL [], ⟨hlt', samePre_succ hp (by rw [hx, hy, he])⟩, by omega, Sub.of rfl ?_ ?_ rfl, rfl⟩
      · (repeat (first | exact trivial | refine ⟨⟨rfl, rfl⟩, ?_⟩ | (refine ⟨⟨?_, rfl⟩, ?_⟩; rotate_left)))
      · (repeat (first | exact trivial | refine ⟨⟨rfl, rfl⟩, ?_⟩ | (refine ⟨⟨?_, rfl⟩, ?_⟩; rotate_left)))
    · have hd2 : (!decide (x = y)) = true := by simp [he]
      have hne : l ≠ m := fun e => by rw [e, hy] at hx; cases hx; exact he rfl
      rw [decide_eq_false hne]
      (repeat (first | (with_reducible first | refine then_normal ?_ | refine then_ret ?_ | refine out_ret ?_ | refine ax_seq ?_ | refine ax_plain ?_ | refine ax_drawn (by kernel_rfl) ?_ | refine ax_block ?_ | refine ax_skip ?_ | refine ax_ret ?_ | refine LX.nil ?_) | refine And.intro (by kernel_rfl) ?_ | refine ax_condHT rfl (by assumption) ?_ | (refine withG (by first | exact gon_none rfl | exact gon_some rfl rfl rfl) (fun hg => ?_); (first | refine x_neqS hg rfl rfl rfl rfl (fun w => neq_Agg _ _ x y w) ?_ | refine Lx.move hg rfl rfl rfl ?_ | refine Lx.assign hg rfl rfl rfl ?_ | (refine gate gIndex rfl ?_; refine x_index hg rfl rfl rfl rfl rfl (by first | exact .ro | exact .row _) (by rfl) (by first | rfl | assumption) (by first | assumption | omega | (simp only [List.length_set]; first | assumption | omega)) ?_) | (refine gate gLoad rfl ?_; refine x_loadE hg rfl rfl rfl rfl (by first | exact .ro | exact .row _) (by first | assumption | exact set_get (by first | assumption | omega | (simp only [List.length_set]; first | assumption | omega))) (by rfl) ?_)); clear hg)))
      (refine ends_res1 Try.results54 (by first | exact item_tmp rfl | exact item_cellS rfl rfl rfl | exact item_cellO rfl rfl) ?_ ?_; (repeat (first | exact .nil | refine .cons ?_ ?_ | refine .o ?_ | refine .a ?_ | exact .c rfl | exact .r (by rfl) rfl | exact .nil _ _ rfl | (refine .c ?_; rotate_left) | (refine .r (by rfl) ?_; rotate_left) | (refine .nil _ _ ?_; rotate_left))); all_goals (try rfl))
  · obtain rfl : k = l.length := by
      have : ¬ k < l.length := by simpa using hlt
      omega
    have hee : l = m := samePre_eq hp (by omega)
    rw [decide_eq_true hee]
    (repeat (first | (with_reducible first | refine then_normal ?_ | refine then_exit ?_ | refine out_same ?_ | refine ax_seq ?_ | refine ax_plain ?_ | refine ax_exit ?_ | refine ax_ret ?_ | refine LX.nil ?_) | (refine withG (by first | exact gon_none rfl | exact gon_some rfl rfl rfl) (fun hg => ?_); (first | refine Lx.assign hg rfl rfl rfl ?_); clear hg)))
    (refine ends_res1 Try.results54 (by first | exact item_tmp rfl | exact item_cellS rfl rfl rfl | exact item_cellO rfl rfl) ?_ ?_; (repeat (first | exact .nil | refine .cons ?_ ?_ | refine .o ?_ | refine .a ?_ | exact .c rfl | exact .r (by rfl) rfl | exact .nil _ _ rfl | (refine .c ?_; rotate_left) | (refine .r (by rfl) ?_; rotate_left) | (refine .nil _ _ ?_; rotate_left))); all_goals (try rfl))
theorem yI_sameSh (s t : Shd) (hs : s.aggs.length ≤ 2000000) : FnR Try.prog 24 [.a [.r kAgg 92 s.aggs, .c (.int .i64 s.mark), .c (.int .i64 s.late), .c (.int .i64 s.over)], .a [.r kAgg 92 t.aggs, .c (.int .i64 t.mark), .c (.int .i64 t.late), .c (.int .i64 t.over)]] (.one (.o (.c (.bool (sameSh s t))))) := by
  have cE := y_EqualAgg s.aggs t.aggs hs
  unfold sameSh
  generalize decide (s.aggs = t.aggs) = e at cE
  by_cases e1 : s.mark = t.mark
  rotate_left
  · have d1 : (s.mark == t.mark) = false := by simp [e1]
    rw [decide_eq_false e1]
    refine fnR_of_ax Try.func24 rfl Try.ntmps24 rfl (fun w => ?_)
    (repeat (first | (with_reducible first | refine then_normal ?_ | refine ax_seq ?_ | refine ax_plain ?_ | refine ax_ret ?_ | refine LX.nil ?_) | refine Lx.off (goff_some rfl rfl rfl rfl) rfl ?_ | (refine withG (by first | exact gon_none rfl | exact gon_some rfl rfl rfl) (fun hg => ?_); (first | (refine gate gCmp rfl ?_; refine x_binH hg rfl rfl rfl rfl (fun _ => rfl) (by assumption) ?_) | refine Lx.move hg rfl rfl rfl ?_ | refine Lx.assign hg rfl rfl rfl ?_ | refine x_load1 hg rfl rfl rfl rfl rfl ?_ | refine x_fieldP hg rfl rfl rfl (by rfl) (by rfl) ?_ | refine x_box hg rfl rfl rfl rfl rfl rfl ?_ | refine x_pickF hg rfl rfl rfl rfl ?_); clear hg)))
    (refine ends_res1 Try.results24 (by first | exact item_tmp rfl | exact item_cellS rfl rfl rfl | exact item_cellO rfl rfl) ?_ ?_; (repeat (first | exact .nil | refine .cons ?_ ?_ | refine .o ?_ | refine .a ?_ | exact .c rfl | exact .r (by rfl) rfl | exact .nil _ _ rfl | (refine .c ?_; rotate_left) | (refine .r (by rfl) ?_; rotate_left) | (refine .nil _ _ ?_; rotate_left))); all_goals (try rfl))
  have d1 : (s.mark == t.mark) = true := by simp [e1]
  rw [decide_eq_true e1]
  by_cases e2 : s.late = t.late
  rotate_left
  · have d2 : (s.late == t.late) = false := by simp [e2]
    rw [decide_eq_false e2]
    refine fnR_of_ax Try.func24 rfl Try.ntmps24 rfl (fun w => ?_)
    (repeat (first | (with_reducible first | refine then_normal ?_ | refine ax_seq ?_ | refine ax_plain ?_ | refine ax_ret ?_ | refine LX.nil ?_) | refine Lx.off (goff_some rfl rfl rfl rfl) rfl ?_ | (refine withG (by first | exact gon_none rfl | exact gon_some rfl rfl rfl) (fun hg => ?_); (first | (refine gate gCmp rfl ?_; refine x_binH hg rfl rfl rfl rfl (fun _ => rfl) (by assumption) ?_) | refine Lx.move hg rfl rfl rfl ?_ | refine Lx.assign hg rfl rfl rfl ?_ | refine x_load1 hg rfl rfl rfl rfl rfl ?_ | refine x_fieldP hg rfl rfl rfl (by rfl) (by rfl) ?_ | refine x_box hg rfl rfl rfl rfl rfl rfl ?_ | refine x_pickT hg rfl rfl rfl rfl ?_ | refine x_pickF hg rfl rfl rfl rfl ?_); clear hg)))
    (refine ends_res1 Try.results24 (by first | exact item_tmp rfl | exact item_cellS rfl rfl rfl | exact item_cellO rfl rfl) ?_ ?_; (repeat (first | exact .nil | refine .cons ?_ ?_ | refine .o ?_ | refine .a ?_ | exact .c rfl | exact .r (by rfl) rfl | exact .nil _ _ rfl | (refine .c ?_; rotate_left) | (refine .r (by rfl) ?_; rotate_left) | (refine .nil _ _ ?_; rotate_left))); all_goals (try rfl))
  have d2 : (s.late == t.late) = true := by simp [e2]
  rw [decide_eq_true e2]
  by_cases e3 : s.over = t.over
  rotate_left
  · have d3 : (s.over == t.over) = false := by simp [e3]
    rw [decide_eq_false e3]
    refine fnR_of_ax Try.func24 rfl Try.ntmps24 rfl (fun w => ?_)
    (repeat (first | (with_reducible first | refine then_normal ?_ | refine ax_seq ?_ | refine ax_plain ?_ | refine ax_ret ?_ | refine LX.nil ?_) | refine Lx.off (goff_some rfl rfl rfl rfl) rfl ?_ | (refine withG (by first | exact gon_none rfl | exact gon_some rfl rfl rfl) (fun hg => ?_); (first | (refine gate gCmp rfl ?_; refine x_binH hg rfl rfl rfl rfl (fun _ => rfl) (by assumption) ?_) | refine Lx.move hg rfl rfl rfl ?_ | refine Lx.assign hg rfl rfl rfl ?_ | refine x_load1 hg rfl rfl rfl rfl rfl ?_ | refine x_fieldP hg rfl rfl rfl (by rfl) (by rfl) ?_ | refine x_box hg rfl rfl rfl rfl rfl rfl ?_ | refine x_pickT hg rfl rfl rfl rfl ?_ | refine x_pickF hg rfl rfl rfl rfl ?_); clear hg)))
    (refine ends_res1 Try.results24 (by first | exact item_tmp rfl | exact item_cellS rfl rfl rfl | exact item_cellO rfl rfl) ?_ ?_; (repeat (first | exact .nil | refine .cons ?_ ?_ | refine .o ?_ | refine .a ?_ | exact .c rfl | exact .r (by rfl) rfl | exact .nil _ _ rfl | (refine .c ?_; rotate_left) | (refine .r (by rfl) ?_; rotate_left) | (refine .nil _ _ ?_; rotate_left))); all_goals (try rfl))
  have d3 : (s.over == t.over) = true := by simp [e3]
  rw [decide_eq_true e3]
  cases e
  all_goals
    refine fnR_of_ax Try.func24 rfl Try.ntmps24 rfl (fun w => ?_)
    (repeat (first | (with_reducible first | refine then_normal ?_ | refine ax_seq ?_ | refine ax_plain ?_ | refine ax_ret ?_ | refine LX.nil ?_) | (refine withG (by first | exact gon_none rfl | exact gon_some rfl rfl rfl) (fun hg => ?_); (first | refine x_call hg (by rfl) (cE) (by rfl) (by rfl) Try.func54 (by kernel_rfl) (by rfl) (by rfl) (by first | ((repeat (first | exact .nil | refine .cons ?_ ?_ | refine .o ?_ | refine .a ?_ | exact .c _ | exact .r rfl .ro | exact .r rfl (.row _) | exact .nil _ _)); done) | fail) (by rfl) ?_ | (refine gate gCmp rfl ?_; refine x_binH hg rfl rfl rfl rfl (fun _ => rfl) (by assumption) ?_) | refine Lx.move hg rfl rfl rfl ?_ | refine Lx.assign hg rfl rfl rfl ?_ | refine x_load1 hg rfl rfl rfl rfl rfl ?_ | refine x_fieldP hg rfl rfl rfl (by rfl) (by rfl) ?_ | refine x_box hg rfl rfl rfl rfl rfl rfl ?_ | refine x_pickT hg rfl rfl rfl rfl ?_); clear hg)))
    (refine ends_res1 Try.results24 (by first | exact item_tmp rfl | exact item_cellS rfl rfl rfl | exact item_cellO rfl rfl) ?_ ?_; (repeat (first | exact .nil | refine .cons ?_ ?_ | refine .o ?_ | refine .a ?_ | exact .c rfl | exact .r (by rfl) rfl | exact .nil _ _ rfl | (refine .c ?_; rotate_left) | (refine .r (by rfl) ?_; rotate_left) | (refine .nil _ _ ?_; rotate_left))); all_goals (try rfl))
end Go.Proofs.Ytmllbjonjpbbkaa.C
