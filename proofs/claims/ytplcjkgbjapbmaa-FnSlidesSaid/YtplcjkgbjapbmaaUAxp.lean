import Derived.Test.YtplcjkgbjapbmaaUp
import Derived.Maps.OwnSet
import Derived.Maps.Views
import Derived.Test.YtplcjkgbjapbmaaPMb
namespace Go.Proofs.Ytplcjkgbjapbmaa.C
open Go.RowKit Go.Proofs.YtplcjkgbjapbmaaW Go.Proofs.YtplcjkgbjapbmaaW.PrintWords Go.Proofs.Ytplcjkgbjapbmaa.U
set_option maxHeartbeats 1000000
set_option maxRecDepth 100000
set_option linter.unusedVariables false
set_option linter.unusedSimpArgs false
open Go.ChangeMaps Go.MapKept
/-! Maps from whole numbers to whole numbers that a call has made. -/
theorem wf_i64 {a : Int} (h : -9223372036854775808 ≤ a ∧ a ≤ 9223372036854775807) : (Lit.int .i64 a).wf = true := by
  simp [Lit.wf, IntKind.min, IntKind.max, IntKind.bits, IntKind.signed]
  omega
def MapP (P : Program) (kT eT N : Nat) (m : Int → Int) (w : World) (v : Value) (own : Nat → Prop) : Prop :=
  ∃ (b n : Nat) (D : DataW Nat), v = .map (some b) ∧ (∀ k, own k ↔ k = b) ∧ w.ownsMap P kT (plainElem P eT) b n D ∧ n ≤ N ∧ ∀ a : Int, D.atKey (.int .i64 a) (.lit (.int .i64 0)) = .lit (.int .i64 (m a))
theorem MapP.st {P : Program} {kT eT N : Nat} {m : Int → Int} {w w1 : World} {T own : Nat → Prop} {v : Value} (hk : Kp w w1 T) (hT : ∀ k, own k → ¬ T k) (h : MapP P kT eT N m w v own) : MapP P kT eT N m w1 v own := by
  obtain ⟨b, n, D, h1, h2, h3, h4, h5⟩ := h
  have hlt := h3.lt
  obtain ⟨es, clock, hb, F, hs, hD⟩ := h3
  exact ⟨b, n, D, h1, h2, ⟨es, clock, (hk.kept.2 b hlt (hT b ((h2 b).2 rfl))).trans hb, F, hs, hD⟩, h4, h5⟩
def mapO (P : Program) (kT eT N : Nat) (m : Int → Int) : AObj := .gen (MapP P kT eT N m) MapP.st
def setM (m : Int → Int) (a c : Int) : Int → Int := fun z => if z = a then c else m z
section
variable {P : Program} {X : Cx} {ops : Array Oper} {o : Oper} {l : List Oper} {σ : St} {K : List (Pre × Eff) → St → Prop} {lg : List (Nat × AV)}
/-- map[int]int{} -/
theorem x_makeMap (hgo : GOn ops σ o lg) (hd : dstOk o.dst σ.n = true) {t kT eT nid : Nat} (ho : o.op = .makeMap t none) (hid0 : o.dst = some nid) (hid : σ.D nid = false)
    (h : LX P X ops l (σ.app o.dst ⟨.o (.i nid), [(nid, some (mapO P kT eT 0 (fun _ => 0)))], [(nid, true)]⟩) (fun C => K ((⟨lg ++ [], []⟩, ⟨.o (.i nid), [(nid, some (mapO P kT eT 0 (fun _ => 0)))], [(nid, true)]⟩) :: C))) : LX P X ops (o :: l) σ K :=
  Lx.run (h := h) (p := []) (ph := []) (e := ⟨.o (.i nid), [(nid, some (mapO P kT eT 0 (fun _ => 0)))], [(nid, true)]⟩) hgo.1 hgo.2 no_mem no_mem (one_mem hid) (fun σ1 hn1 _ _ h3 μ ω a w hs1 K Q hK => by
    have hid1 : σ1.D nid = false := h3 _ List.mem_cons_self
    have hrun : (execOp a.eval o).run P w = .ok (.value (.map (some w.heap.size))) (w.alloc (.map #[] 0)) := by
      unfold execOp
      simp [ho, run_makeMap]
    unfold Oper.wp
    rw [hrun]
    refine hK _ _ _ _ ((hs1.new (id := nid) (o := mapO P kT eT 0 (fun _ => 0)) (v := .map (some w.heap.size)) (own := fun k => k = w.heap.size) hid1 (Kp.alloc w _) ⟨w.heap.size, 0, .map [], rfl, fun k => Iff.rfl, World.ownsMap_made w P kT _, Nat.le_refl _, fun a => ?_⟩ (fun k hk => ?_)).put (av := .o (.i nid)) (dstOk_spec (hn1 ▸ hd)) ⟨upd_same _ _ _, rfl⟩)
    · simp [DataW.atKey]
    · subst hk; simp)
/-- m[a] = c -/
theorem x_mapSet (hgo : GOn ops σ o lg) (hd : dstOk o.dst σ.n = true) {t kT eT N id : Nat} {m x y : Operand} {mm : Int → Int} {a c : Int} (ho : o.op = .mapUpdate t m x y) (ht : P.underlying t = some (.map kT eT)) (hk : P.underlying kT = some (.int .i64)) (he : P.underlying eT = some (.int .i64)) (hm : opnd σ.F m = some (.o (.i id))) (hx : opnd σ.F x = some (.o (.c (.int .i64 a)))) (hy : opnd σ.F y = some (.o (.c (.int .i64 c)))) (hH : σ.H id = some (mapO P kT eT N mm)) (hN : N ≤ 1000000000) (ha : -9223372036854775808 ≤ a ∧ a ≤ 9223372036854775807) (hc : -9223372036854775808 ≤ c ∧ c ≤ 9223372036854775807)
    (h : LX P X ops l (σ.app o.dst ⟨.o (.c undef), [(id, some (mapO P kT eT (N + 1) (setM mm a c)))], []⟩) (fun C => K ((⟨lg ++ (look m (.o (.i id)) ++ (look x (.o (.c (.int .i64 a))) ++ look y (.o (.c (.int .i64 c))))), [(id, mapO P kT eT N mm)]⟩, ⟨.o (.c undef), [(id, some (mapO P kT eT (N + 1) (setM mm a c)))], []⟩) :: C))) : LX P X ops (o :: l) σ K :=
  Lx.run (h := h) (e := ⟨.o (.c undef), [(id, some (mapO P kT eT (N + 1) (setM mm a c)))], []⟩) hgo.1 hgo.2 (mem_app (look_fits hm) (mem_app (look_fits hx) (look_fits hy))) (one_mem hH) no_mem (fun σ1 hn1 h1 h4 _ μ ω ac w hs1 K Q hK => by
    have hH1 : σ1.H id = some (mapO P kT eT N mm) := h4 _ List.mem_cons_self
    have em := hs1.ev (opnd_of hm (app_l h1))
    have ex := hs1.val (opnd_of hx (app_l (app_r h1)))
    have ey := hs1.val (opnd_of hy (app_r (app_r h1)))
    obtain ⟨v, hv, b, n, D, rfl, hown, hom, hnN, hat⟩ := hs1.obj id _ hH1
    have ev : ac.eval m = .map (some b) := by have := em.1; rw [hv] at this; injection this with this; exact this.symm
    have hkey := Maps.keyOf_int_mk hk (wf_i64 ha)
    obtain ⟨w1, hrun, ho1, hg⟩ := hom.update (Maps.int_keyed hk) ht (by have : maxLen = 9223372036854775807 := rfl; omega) hkey (plainElem_int (H := Nat) he (wf_i64 hc))
    have hrun2 : (execOp ac.eval o).run P w = .ok .skip w1 := by
      unfold execOp
      simp [ho, ev, ex, ey, hrun]
    unfold Oper.wp
    rw [hrun2]
    refine hK _ _ _ _ ((hs1.set (id := id) (o1 := mapO P kT eT (N + 1) (setM mm a c)) hH1 hv ((Kp.of_grown hg).mono (fun k hk => (hown k).2 (Option.some.inj hk).symm)) ⟨b, n + 1, D.put (.int .i64 a) (.lit (.int .i64 c)), rfl, hown, ho1, by omega, fun z => ?_⟩).put (av := .o (.c undef)) (dstOk_spec (hn1 ▸ hd)) rfl)
    unfold setM
    by_cases e : z = a
    · subst e
      rw [if_pos rfl, Maps.atKey_put_same hom.isMap (by simp [WideAt.IsKeyLit])]
    · rw [if_neg e, Maps.atKey_put_other (fun e2 => e (by injection e2)), hat])
/-- m[a] -/
theorem x_mapGet (hgo : GOn ops σ o lg) (hd : dstOk o.dst σ.n = true) {t kT eT N id : Nat} {m x : Operand} {mm : Int → Int} {a : Int} (ho : o.op = .lookup t m x false) (ht : P.underlying t = some (.map kT eT)) (hk : P.underlying kT = some (.int .i64)) (he : P.underlying eT = some (.int .i64)) (hz : ∀ w, (zeroValue eT).run P w = .ok (.int .i64 0) w) (hm : opnd σ.F m = some (.o (.i id))) (hx : opnd σ.F x = some (.o (.c (.int .i64 a)))) (hH : σ.H id = some (mapO P kT eT N mm)) (ha : -9223372036854775808 ≤ a ∧ a ≤ 9223372036854775807)
    (h : LX P X ops l (σ.app o.dst ⟨.o (.c (.int .i64 (mm a))), [], []⟩) (fun C => K ((⟨lg ++ (look m (.o (.i id)) ++ look x (.o (.c (.int .i64 a)))), [(id, mapO P kT eT N mm)]⟩, ⟨.o (.c (.int .i64 (mm a))), [], []⟩) :: C))) : LX P X ops (o :: l) σ K :=
  Lx.val (h := h) hgo.1 hgo.2 hd (mem_app (look_fits hm) (look_fits hx)) (one_mem hH) (fun σ1 h1 h4 μ ω ac w hs1 => by
    have hH1 : σ1.H id = some (mapO P kT eT N mm) := h4 _ List.mem_cons_self
    have em := hs1.ev (opnd_of hm (app_l h1))
    have ex := hs1.val (opnd_of hx (app_r h1))
    obtain ⟨v, hv, b, n, D, rfl, hown, hom, hnN, hat⟩ := hs1.obj id _ hH1
    have ev : ac.eval m = .map (some b) := by have := em.1; rw [hv] at this; injection this with this; exact this.symm
    have hkey := Maps.keyOf_int_mk hk (wf_i64 ha)
    obtain ⟨c, hrun, hc, _⟩ := hom.lookup_int (Maps.int_keyed hk) ht he (hz w) hkey
    rw [hat] at hc
    have hc2 : mm a = c := by injection hc with hc; injection hc
    refine ⟨.int .i64 (mm a), ?_, rfl⟩
    unfold execOp
    simp [ho, ev, ex, hrun, hc2])
end
end Go.Proofs.Ytplcjkgbjapbmaa.C
