import Derived.Test.YtplcjkgbjapbmaaUp
import Derived.Test.YtplcjkgbjapbmaaUAxr
namespace Go.Proofs.Ytplcjkgbjapbmaa.C
open Go.RowKit Go.Proofs.YtplcjkgbjapbmaaW Go.Proofs.YtplcjkgbjapbmaaW.PrintWords Go.Proofs.Ytplcjkgbjapbmaa.U
set_option maxHeartbeats 1000000
set_option maxRecDepth 100000
set_option linter.unusedVariables false
set_option linter.unusedSimpArgs false
/-! Further steps. -/
/-- A nil slice that a variable holds, taken for a row. -/
theorem ax_nilrow {P : Program} {X : Cx} {σ : St} {Q : Post} {cd : Code} {α : Type} {d : Kd α} {e t : Nat} {cs : List SV} (nid b j : Nat) (hH : σ.H b = some (.box t cs)) (hc : cs[j]? = some (.c (.slice none 0 0))) (hid : σ.D nid = false) (h : AX P X cd { σ with H := upd (upd σ.H b (some (.box t (cs.set j (.i nid))))) nid (some (.row d e [])), D := upd σ.D nid true } Q) : AX P X cd σ Q := fun μ ω a w hs => by
  have h0 := hs.made nid hid
  obtain ⟨g, vs, hg, hown, hb, hcon, hone⟩ := hs.box hH
  have hne : b ≠ nid := fun e => by rw [e, h0] at hg; cases hg
  have hn := hs.new (id := nid) (o := .row d e []) (v := .slice none 0 0) (own := No_) hid (Kp.refl _ _) ⟨0, Kd.S_nil d e w 0 _⟩ (fun k hk => hk.elim)
  have hle : Le μ (upd μ nid (some (.slice none 0 0))) := Up_upd h0
  obtain ⟨u, hu, hcu⟩ := conL_get hcon hc
  have hu0 : u = .slice none 0 0 := hcu
  subst hu0
  have h1 := conL_set (conL_mono hle hcon) j (s := .i nid) (v := .slice none 0 0) ⟨upd_same _ _ _, rfl⟩
  have h2 : vs.toList.set j (.slice none 0 0) = vs.toList := by
    obtain ⟨hlt, e⟩ := List.getElem?_eq_some_iff.1 hu
    rw [← e, List.set_getElem_self]
  rw [h2] at h1
  have hb2 : ({ σ with H := upd σ.H nid (some (.row d e [])), D := upd σ.D nid true } : St).H b = some (.box t cs) := by
    show upd σ.H nid (some (.row d e [])) b = _
    rw [upd_ne _ hne]; exact hH
  have hg2 : upd μ nid (some (.slice none 0 0)) b = some (.pointer (some ⟨g, 0, none⟩)) := by rw [upd_ne _ hne]; exact hg
  have := hn.set (id := b) (o1 := .box t (cs.set j (.i nid))) hb2 hg2 (Kp.refl _ _) ⟨g, vs, rfl, fun k => by rw [upd_ne _ hne]; exact hown k, hb, h1, hone⟩
  have e1 : upd (upd σ.H b (some (.box t (cs.set j (.i nid))))) nid (some (.row d e [])) = upd (upd σ.H nid (some (.row d e []))) b (some (.box t (cs.set j (.i nid)))) := upd_comm _ (Ne.symm hne) _ _
  rw [e1] at h
  exact h _ _ a w this
/-- A contract under the names of l. -/
theorem FnS.ren {P : Program} {f : FuncId} {args args' : List GA} {H0 H1 H0' H1' : List (Nat × AObj)} {r r' : AV} (l : List (Nat × Nat)) (h : FnS P f args H0 r H1) (hi : injB (renL l) (keys l) = true) (h0 : (keys H0).all (memB (keys l)) = true) (h1 : (keys H1).all (memB (keys l)) = true) (hr : r.ok (memB (keys l)) = true) (hH : H1.all (fun q => q.2.ok (memB (keys l))) = true) (ea : args.map (GA.ren (renL l)) = args') (e0 : renH (renL l) H0 = H0') (er : r.ren (renL l) = r') (e1 : renH (renL l) H1 = H1') : FnS P f args' H0' r' H1' := by
  subst ea e0 er e1
  exact FnS.rename (renL l) (keys l) h (fun i j => injB_spec hi i j) (fun k hk => memB_iff.1 (List.all_eq_true.1 h0 k hk)) (fun k hk => memB_iff.1 (List.all_eq_true.1 h1 k hk)) hr hH
end Go.Proofs.Ytplcjkgbjapbmaa.C
