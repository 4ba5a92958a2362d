import Derived.Test.YtmllbjonjpbbkaaUp
import Derived.Test.YtmllbjonjpbbkaaPSf
import Derived.Test.YtmllbjonjpbbkaaUYInsertAgg
namespace Go.Proofs.Ytmllbjonjpbbkaa.C
open Go.RowKit Go.Proofs.YtmllbjonjpbbkaaW Go.Proofs.YtmllbjonjpbbkaaW.PrintWords Go.Proofs.Ytmllbjonjpbbkaa.U
set_option maxHeartbeats 1000000
set_option maxRecDepth 100000
set_option linter.unusedVariables false
set_option linter.unusedSimpArgs false
theorem yI_putA (l : List Agg) (a : Agg) (hs : Strict l) (hb : ∀ x ∈ l, AggBd x) (ha : AggBd a) (hl : l.length ≤ 100000) : FnS Try.prog 119 [.o (.vl (.i 1)), .a [.vl (.c (.int .i64 a.win)), .vl (.c (.int .i64 a.key)), .vl (.c (.int .i64 a.count)), .vl (.c (.int .i64 a.sum)), .vl (.c (.int .i64 a.min)), .vl (.c (.int .i64 a.max))]] [(1, .row kAgg 92 l)] (.o (.i 2)) [(2, .row kAgg 92 (putG a l))] := by
  have c1 := y_bsA l a hs (by omega)
  have hpl := posG_le aggLt a l
  cases hh : hitG aggLt a l
  · rw [putG_no hh]
    rw [hh] at c1
    have cI := (y_insertAgg0 l [a] (posG aggLt a l) hpl (by omega) (by simp) (by simp)).ren [(1, 1), (3, 18), (2, 100190)] rfl rfl rfl rfl rfl rfl rfl rfl rfl
    refine fnS_of_ax Try.func119 rfl Try.ntmps119 rfl rfl (fun X hX => ?_)
    (repeat (first | (with_reducible first | refine then_normal ?_ | refine then_ret ?_ | refine ax_seq ?_ | refine ax_plain ?_ | refine ax_ret ?_ | refine LX.nil ?_) | refine ax_condT rfl ?_ | (refine withG (by first | exact gon_none rfl | exact gon_some rfl rfl rfl) (fun hg => ?_); (first | refine x_call hg (by rfl) (c1) (by rfl) (by rfl) Try.func116 (by kernel_rfl) (by rfl) (by rfl) (by first | ((repeat (first | exact .nil | refine .cons ?_ ?_ | refine .o ?_ | refine .a ?_ | exact .c _ | exact .r rfl .ro | exact .r rfl (.row _) | exact .nil _ _)); done) | fail) (by rfl) ?_ | refine x_callS hg (by rfl) (cI) (by rfl) (by rfl) Try.func125 (by kernel_rfl) (by rfl) (by rfl) (by first | ((repeat (first | exact .nil | refine .cons ?_ ?_ | refine .o ?_ | refine .a ?_ | exact .vl _ | exact .r (t := 0) (.r rfl .ro) | exact .r (t := 0) (.r rfl (.row _)) | exact .r (.nil _ 0) | exact .r (t := 0) (.s (by rfl) (by first | exact .ro | exact .row _) (by rfl) (by first | assumption | omega | (simp only [List.length_append, List.length_take, List.length_drop, List.length_set, List.length_map, List.length_range, List.length_drop, List.length_replicate, Nat.zero_add]; omega)) (by first | rfl | assumption)))); done) | fail) (by repeat (first | exact trivial | refine ⟨rfl, ?_⟩)) (by rfl) ?_ | refine Lx.move hg rfl rfl rfl ?_ | refine Lx.extract hg rfl rfl rfl rfl ?_ | refine Lx.assign hg rfl rfl rfl ?_ | refine x_loadA hg rfl rfl rfl rfl (by rfl) ?_ | refine Lx.un hg rfl rfl rfl (fun _ => rfl) ?_ | refine x_box hg rfl rfl rfl rfl rfl rfl ?_ | refine x_buildS hg rfl (by rfl) rfl rfl (by rfl) (by rfl) (by rfl) rfl rfl ?_); clear hg)))
    refine endS (renL [(2, 100190)]) (hX _ _ rfl) (Sub.of rfl trivial ?_ rfl) (items1 Try.results119 (by first | exact item_tmp rfl | exact item_cellS rfl rfl rfl | exact item_cellO rfl rfl)) ?_ rfl
    · (repeat (first | exact trivial | refine ⟨⟨rfl, rfl⟩, ?_⟩ | (refine ⟨⟨?_, rfl⟩, ?_⟩; rotate_left)))
    · rfl
  · obtain ⟨x, hx, _⟩ := hitG_at hh
    rw [putG_hit hh hx]
    rw [hh] at c1
    have hlt : posG aggLt a l < l.length := (List.getElem?_eq_some_iff.1 hx).1
    have cM := yI_merged x a (hb x (List.mem_of_getElem? hx)) ha
    refine fnS_of_ax Try.func119 rfl Try.ntmps119 rfl rfl (fun X hX => ?_)
    (repeat (first | (with_reducible first | refine then_normal ?_ | refine ax_seq ?_ | refine ax_plain ?_ | refine ax_drawn (by kernel_rfl) ?_ | refine ax_skip ?_ | refine ax_ret ?_ | refine LX.nil ?_) | refine And.intro (by kernel_rfl) ?_ | refine ax_condF rfl ?_ | (refine withG (by first | exact gon_none rfl | exact gon_some rfl rfl rfl) (fun hg => ?_); (first | refine x_call hg (by rfl) (c1) (by rfl) (by rfl) Try.func116 (by kernel_rfl) (by rfl) (by rfl) (by first | ((repeat (first | exact .nil | refine .cons ?_ ?_ | refine .o ?_ | refine .a ?_ | exact .c _ | exact .r rfl .ro | exact .r rfl (.row _) | exact .nil _ _)); done) | fail) (by rfl) ?_ | refine x_call hg (by rfl) (cM) (by rfl) (by rfl) Try.func126 (by kernel_rfl) (by rfl) (by rfl) (by first | ((repeat (first | exact .nil | refine .cons ?_ ?_ | refine .o ?_ | refine .a ?_ | exact .c _ | exact .r rfl .ro | exact .r rfl (.row _) | exact .nil _ _)); done) | fail) (by rfl) ?_ | refine Lx.move hg rfl rfl rfl ?_ | refine Lx.extract hg rfl rfl rfl rfl ?_ | refine Lx.assign hg rfl rfl rfl ?_ | (refine gate gIndex rfl ?_; refine x_index hg rfl rfl rfl rfl rfl (by first | exact .ro | exact .row _) (by rfl) (by first | rfl | assumption) (by first | assumption | omega | (simp only [List.length_set]; first | assumption | omega)) ?_) | (refine gate gLoad rfl ?_; refine x_loadE hg rfl rfl rfl rfl (by first | exact .ro | exact .row _) (by first | assumption | exact set_get (by first | assumption | omega | (simp only [List.length_set]; first | assumption | omega))) (by rfl) ?_) | refine x_loadA hg rfl rfl rfl rfl (by rfl) ?_ | refine Lx.un hg rfl rfl rfl (fun _ => rfl) ?_ | (refine gate gStore rfl ?_; refine x_storeEA hg rfl rfl rfl rfl rfl (by first | assumption | exact set_get (by first | assumption | omega | (simp only [List.length_set]; first | assumption | omega))) rfl (by rfl) (by rfl) (by rfl) ?_) | refine x_box hg rfl rfl rfl rfl rfl rfl ?_); clear hg)))
    refine endS (renL [(2, 1)]) (hX _ _ rfl) (Sub.of rfl trivial ?_ rfl) (items1 Try.results119 (by first | exact item_tmp rfl | exact item_cellS rfl rfl rfl | exact item_cellO rfl rfl)) ?_ rfl
    · (repeat (first | exact trivial | refine ⟨⟨rfl, rfl⟩, ?_⟩ | (refine ⟨⟨?_, rfl⟩, ?_⟩; rotate_left)))
    · rfl
end Go.Proofs.Ytmllbjonjpbbkaa.C
