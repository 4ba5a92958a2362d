import Derived.Test.YtplcjkgbjapbmaaUp
import Derived.DeepKeys3
import Derived.DeepKeys4
import Derived.Test.YtplcjkgbjapbmaaUAxp
namespace Go.Proofs.Ytplcjkgbjapbmaa.C
open Go.RowKit Go.Proofs.YtplcjkgbjapbmaaW Go.Proofs.YtplcjkgbjapbmaaW.PrintWords Go.Proofs.Ytplcjkgbjapbmaa.U
set_option maxHeartbeats 1000000
set_option maxRecDepth 100000
set_option linter.unusedVariables false
set_option linter.unusedSimpArgs false
open Go.ChangeMaps Go.MapKept
/-! Maps from pairs of whole numbers to whole numbers that a call has made. -/
def key2 (a b : Int) : Lit := .string (keyBytes [.int .i64 a, .int .i64 b])
def In64 (a : Int) : Prop := -9223372036854775808 ≤ a ∧ a ≤ 9223372036854775807
structure Pair2 (P : Program) (k e : Nat) : Prop where
  hk : P.underlying k = some (.array 2 e)
  he : P.underlying e = some (.int .i64)
  hc : P.cellsOf k = 2
  hce : P.cellsOf e = 1
  hty : P.keyType k = true
  hs : 0 < P.types.size
  ht : P.tiled 3 k = true
  K : Maps.Keyed P k
theorem keyOf_pair {P : Program} {k e : Nat} (h : Pair2 P k e) {a b : Int} (ha : In64 a) (hb : In64 b) : keyOf P k (.agg #[.int .i64 a, .int .i64 b]) = some (key2 a b) := by
  have hf : (Value.agg #[.int .i64 a, .int .i64 b]).formed P k = true := by simp [Value.formed, h.hk, h.hc]
  obtain ⟨n, hn⟩ : ∃ n, P.types.size = n + 1 := ⟨P.types.size - 1, by have := h.hs; omega⟩
  have hw1 := wf_i64 ha
  have hw2 := wf_i64 hb
  have hl : P.keyLits (P.types.size + 1) k (Value.agg #[.int .i64 a, .int .i64 b]).cells.toList = some [.int .i64 a, .int .i64 b] := by
    have i1 : P.keyLits (n + 1) e [.int .i64 a] = some [.int .i64 a] := by
      unfold Program.keyLits
      simp [h.he, hw1]
    have i2 : P.keyLits (n + 1) e [.int .i64 b] = some [.int .i64 b] := by
      unfold Program.keyLits
      simp [h.he, hw2]
    rw [hn]
    unfold Program.keyLits
    simp [h.hk, h.hc, h.hce, Value.cells, i1, i2, List.range, List.range.loop]
  unfold keyOf
  simp only [h.hk, h.hty, hf, hl]
  rfl
theorem key2_inj {P : Program} {k e : Nat} (h : Pair2 P k e) {a b a' b' : Int} (ha : In64 a) (hb : In64 b) (ha' : In64 a') (hb' : In64 b') (he : key2 a b = key2 a' b') : a = a' ∧ b = b' := by
  have h1 := keyOf_pair h ha hb
  have h2 := keyOf_pair h ha' hb'
  rw [← he] at h2
  have := keyOf_inj_deep h.ht (by rw [h.hk]) h1 h2
  simpa using this
def Map2P (P : Program) (kT eT N : Nat) (m : Int → Int → Option Int) (w : World) (v : Value) (own : Nat → Prop) : Prop :=
  ∃ (b n : Nat) (D : DataW Nat), v = .map (some b) ∧ (∀ k, own k ↔ k = b) ∧ w.ownsMap P kT (plainElem P eT) b n D ∧ n ≤ N ∧ ∀ x y : Int, In64 x → In64 y → (∀ c, m x y = some c → Maps.has D (key2 x y) = true ∧ D.atKey (key2 x y) (.lit (.int .i64 0)) = .lit (.int .i64 c)) ∧ (m x y = none → Maps.has D (key2 x y) = false)
theorem Map2P.st {P : Program} {kT eT N : Nat} {m : Int → Int → Option Int} {w w1 : World} {T own : Nat → Prop} {v : Value} (hk : Kp w w1 T) (hT : ∀ k, own k → ¬ T k) (h : Map2P P kT eT N m w v own) : Map2P P kT eT N m w1 v own := by
  obtain ⟨b, n, D, h1, h2, h3, h4, h5⟩ := h
  have hlt := h3.lt
  obtain ⟨es, clock, hb, F, hs, hD⟩ := h3
  exact ⟨b, n, D, h1, h2, ⟨es, clock, (hk.kept.2 b hlt (hT b ((h2 b).2 rfl))).trans hb, F, hs, hD⟩, h4, h5⟩
def map2O (P : Program) (kT eT N : Nat) (m : Int → Int → Option Int) : AObj := .gen (Map2P P kT eT N m) Map2P.st
def setM2 (m : Int → Int → Option Int) (a b c : Int) : Int → Int → Option Int := fun x y => if x = a ∧ y = b then some c else m x y
section
variable {P : Program} {X : Cx} {ops : Array Oper} {o : Oper} {l : List Oper} {σ : St} {K : List (Pre × Eff) → St → Prop} {lg : List (Nat × AV)}
/-- map[[2]int]int{} -/
theorem x_makeMap2 (hgo : GOn ops σ o lg) (hd : dstOk o.dst σ.n = true) {t kT eT nid : Nat} (ho : o.op = .makeMap t none) (hid0 : o.dst = some nid) (hid : σ.D nid = false)
    (h : LX P X ops l (σ.app o.dst ⟨.o (.i nid), [(nid, some (map2O P kT eT 0 (fun _ _ => none)))], [(nid, true)]⟩) (fun C => K ((⟨lg ++ [], []⟩, ⟨.o (.i nid), [(nid, some (map2O P kT eT 0 (fun _ _ => none)))], [(nid, true)]⟩) :: C))) : LX P X ops (o :: l) σ K :=
  Lx.run (h := h) (p := []) (ph := []) (e := ⟨.o (.i nid), [(nid, some (map2O P kT eT 0 (fun _ _ => none)))], [(nid, true)]⟩) hgo.1 hgo.2 no_mem no_mem (one_mem hid) (fun σ1 hn1 _ _ h3 μ ω a w hs1 K Q hK => by
    have hid1 : σ1.D nid = false := h3 _ List.mem_cons_self
    have hrun : (execOp a.eval o).run P w = .ok (.value (.map (some w.heap.size))) (w.alloc (.map #[] 0)) := by
      unfold execOp
      simp [ho, run_makeMap]
    unfold Oper.wp
    rw [hrun]
    refine hK _ _ _ _ ((hs1.new (id := nid) (o := map2O P kT eT 0 (fun _ _ => none)) (v := .map (some w.heap.size)) (own := fun k => k = w.heap.size) hid1 (Kp.alloc w _) ⟨w.heap.size, 0, .map [], rfl, fun k => Iff.rfl, World.ownsMap_made w P kT _, Nat.le_refl _, fun x y _ _ => ⟨fun c hc => absurd (show (none : Option Int) = some c from hc) (by simp), fun _ => rfl⟩⟩ (fun k hk => ?_)).put (av := .o (.i nid)) (dstOk_spec (hn1 ▸ hd)) ⟨upd_same _ _ _, rfl⟩)
    subst hk; simp)
/-- m[[2]int{a, b}] = c -/
theorem x_map2Set (hgo : GOn ops σ o lg) (hd : dstOk o.dst σ.n = true) {t kT iT eT N id : Nat} {m x y : Operand} {mm : Int → Int → Option Int} {a b c : Int} (ho : o.op = .mapUpdate t m x y) (ht : P.underlying t = some (.map kT eT)) (hk : Pair2 P kT iT) (he : P.underlying eT = some (.int .i64)) (hm : opnd σ.F m = some (.o (.i id))) (hx : opnd σ.F x = some (.a [.c (.int .i64 a), .c (.int .i64 b)])) (hy : opnd σ.F y = some (.o (.c (.int .i64 c)))) (hH : σ.H id = some (map2O P kT eT N mm)) (hN : N ≤ 1000000000) (ha : In64 a) (hb : In64 b) (hc : In64 c)
    (h : LX P X ops l (σ.app o.dst ⟨.o (.c undef), [(id, some (map2O P kT eT (N + 1) (setM2 mm a b c)))], []⟩) (fun C => K ((⟨lg ++ (look m (.o (.i id)) ++ (look x (.a [.c (.int .i64 a), .c (.int .i64 b)]) ++ look y (.o (.c (.int .i64 c))))), [(id, map2O P kT eT N mm)]⟩, ⟨.o (.c undef), [(id, some (map2O P kT eT (N + 1) (setM2 mm a b c)))], []⟩) :: C))) : LX P X ops (o :: l) σ K :=
  Lx.run (h := h) (e := ⟨.o (.c undef), [(id, some (map2O P kT eT (N + 1) (setM2 mm a b c)))], []⟩) hgo.1 hgo.2 (mem_app (look_fits hm) (mem_app (look_fits hx) (look_fits hy))) (one_mem hH) no_mem (fun σ1 hn1 h1 h4 _ μ ω ac w hs1 K Q hK => by
    have hH1 : σ1.H id = some (map2O P kT eT N mm) := h4 _ List.mem_cons_self
    have em := hs1.ev (opnd_of hm (app_l h1))
    obtain ⟨vs, ex, hcon⟩ := hs1.ev (opnd_of hx (app_l (app_r h1)))
    obtain rfl := conL_eq (cs := [.int .i64 a, .int .i64 b]) hcon
    have ey := hs1.val (opnd_of hy (app_r (app_r h1)))
    obtain ⟨v, hv, g, n, D, rfl, hown, hom, hnN, hat⟩ := hs1.obj id _ hH1
    have ev : ac.eval m = .map (some g) := by have := em.1; rw [hv] at this; injection this with this; exact this.symm
    have hkey := keyOf_pair hk ha hb
    obtain ⟨w1, hrun, ho1, hg⟩ := hom.update hk.K ht (by have : maxLen = 9223372036854775807 := rfl; omega) hkey (plainElem_int (H := Nat) he (wf_i64 hc))
    have hrun2 : (execOp ac.eval o).run P w = .ok .skip w1 := by
      unfold execOp
      simp [ho, ev, ex, ey, hrun]
    unfold Oper.wp
    rw [hrun2]
    refine hK _ _ _ _ ((hs1.set (id := id) (o1 := map2O P kT eT (N + 1) (setM2 mm a b c)) hH1 hv ((Kp.of_grown hg).mono (fun k hk => (hown k).2 (Option.some.inj hk).symm)) ⟨g, n + 1, D.put (key2 a b) (.lit (.int .i64 c)), rfl, hown, ho1, by omega, fun x' y' hx' hy' => ?_⟩).put (av := .o (.c undef)) (dstOk_spec (hn1 ▸ hd)) rfl)
    unfold setM2
    by_cases e : x' = a ∧ y' = b
    · obtain ⟨rfl, rfl⟩ := e
      rw [if_pos ⟨rfl, rfl⟩, Maps.has_put_same hom.isMap (by simp [key2, WideAt.IsKeyLit]), Maps.atKey_put_same hom.isMap (by simp [key2, WideAt.IsKeyLit])]
      exact ⟨fun c' hc' => by cases hc'; exact ⟨rfl, rfl⟩, fun hc' => by cases hc'⟩
    · have hne : key2 x' y' ≠ key2 a b := fun e2 => e (key2_inj hk hx' hy' ha hb e2)
      rw [if_neg e, Maps.has_put_other hne, Maps.atKey_put_other hne]
      exact hat x' y' hx' hy')
/-- v, ok := m[[2]int{a, b}] -/
theorem x_map2Get (hgo : GOn ops σ o lg) (hd : dstOk o.dst σ.n = true) {t kT iT eT N id : Nat} {m x : Operand} {mm : Int → Int → Option Int} {a b : Int} (ho : o.op = .lookup t m x true) (ht : P.underlying t = some (.map kT eT)) (hk : Pair2 P kT iT) (he : P.underlying eT = some (.int .i64)) (hz : ∀ w, (zeroValue eT).run P w = .ok (.int .i64 0) w) (hm : opnd σ.F m = some (.o (.i id))) (hx : opnd σ.F x = some (.a [.c (.int .i64 a), .c (.int .i64 b)])) (hH : σ.H id = some (map2O P kT eT N mm)) (ha : In64 a) (hb : In64 b)
    (h : LX P X ops l (σ.app o.dst ⟨.t [.o (.c (.int .i64 ((mm a b).getD 0))), .o (.c (.bool (mm a b).isSome))], [], []⟩) (fun C => K ((⟨lg ++ (look m (.o (.i id)) ++ look x (.a [.c (.int .i64 a), .c (.int .i64 b)])), [(id, map2O P kT eT N mm)]⟩, ⟨.t [.o (.c (.int .i64 ((mm a b).getD 0))), .o (.c (.bool (mm a b).isSome))], [], []⟩) :: C))) : LX P X ops (o :: l) σ K :=
  Lx.val (h := h) hgo.1 hgo.2 hd (mem_app (look_fits hm) (look_fits hx)) (one_mem hH) (fun σ1 h1 h4 μ ω ac w hs1 => by
    have hH1 : σ1.H id = some (map2O P kT eT N mm) := h4 _ List.mem_cons_self
    have em := hs1.ev (opnd_of hm (app_l h1))
    obtain ⟨vs, ex, hcon⟩ := hs1.ev (opnd_of hx (app_r h1))
    obtain rfl := conL_eq (cs := [.int .i64 a, .int .i64 b]) hcon
    obtain ⟨v, hv, g, n, D, rfl, hown, hom, hnN, hat⟩ := hs1.obj id _ hH1
    have ev : ac.eval m = .map (some g) := by have := em.1; rw [hv] at this; injection this with this; exact this.symm
    have hw0 : (Lit.int .i64 0).wf = true := by decide
    obtain ⟨u, ps, hrun, hR⟩ := hom.look_ok hk.K ht (hz w) (plainElem_int (H := Nat) he hw0) (keyOf_pair hk ha hb)
    obtain ⟨c, rfl, hcc, _⟩ := plainElem_int_inv he hR
    simp only [Prod.mk.injEq] at hcc
    cases hmm : mm a b with
    | none =>
      have hh := (hat a b ha hb).2 hmm
      have h0 := Maps.atKey_of_not_has hh (.lit (.int .i64 0))
      rw [h0] at hcc
      have hc0 : c = 0 := by have := hcc.1; injection this with this; injection this with _ this; exact this.symm
      subst hc0
      rw [hh] at hrun
      refine ⟨.tuple #[.int .i64 0, .bool false], ?_, [.int .i64 0, .bool false], rfl, rfl, rfl, trivial⟩
      unfold execOp
      simp [ho, ev, ex, hrun]
    | some c' =>
      obtain ⟨hh, h0⟩ := (hat a b ha hb).1 c' hmm
      rw [h0] at hcc
      have hc0 : c = c' := by have := hcc.1; injection this with this; injection this with _ this; exact this.symm
      subst hc0
      rw [hh] at hrun
      refine ⟨.tuple #[.int .i64 c, .bool true], ?_, [.int .i64 c, .bool true], rfl, rfl, rfl, trivial⟩
      unfold execOp
      simp [ho, ev, ex, hrun])
theorem x_map2Hit (hgo : GOn ops σ o lg) (hd : dstOk o.dst σ.n = true) {t kT iT eT N id : Nat} {m x : Operand} {mm : Int → Int → Option Int} {a b c : Int} (ho : o.op = .lookup t m x true) (ht : P.underlying t = some (.map kT eT)) (hk : Pair2 P kT iT) (he : P.underlying eT = some (.int .i64)) (hz : ∀ w, (zeroValue eT).run P w = .ok (.int .i64 0) w) (hm : opnd σ.F m = some (.o (.i id))) (hx : opnd σ.F x = some (.a [.c (.int .i64 a), .c (.int .i64 b)])) (hH : σ.H id = some (map2O P kT eT N mm)) (ha : In64 a) (hb : In64 b) (hc : mm a b = some c)
    (h : LX P X ops l (σ.app o.dst ⟨.t [.o (.c (.int .i64 c)), .o (.c (.bool true))], [], []⟩) (fun C => K ((⟨lg ++ (look m (.o (.i id)) ++ look x (.a [.c (.int .i64 a), .c (.int .i64 b)])), [(id, map2O P kT eT N mm)]⟩, ⟨.t [.o (.c (.int .i64 c)), .o (.c (.bool true))], [], []⟩) :: C))) : LX P X ops (o :: l) σ K :=
  x_map2Get hgo hd ho ht hk he hz hm hx hH ha hb (by simp only [hc, Option.getD_some, Option.isSome_some]; exact h)
theorem x_map2Miss (hgo : GOn ops σ o lg) (hd : dstOk o.dst σ.n = true) {t kT iT eT N id : Nat} {m x : Operand} {mm : Int → Int → Option Int} {a b : Int} (ho : o.op = .lookup t m x true) (ht : P.underlying t = some (.map kT eT)) (hk : Pair2 P kT iT) (he : P.underlying eT = some (.int .i64)) (hz : ∀ w, (zeroValue eT).run P w = .ok (.int .i64 0) w) (hm : opnd σ.F m = some (.o (.i id))) (hx : opnd σ.F x = some (.a [.c (.int .i64 a), .c (.int .i64 b)])) (hH : σ.H id = some (map2O P kT eT N mm)) (ha : In64 a) (hb : In64 b) (hc : mm a b = none)
    (h : LX P X ops l (σ.app o.dst ⟨.t [.o (.c (.int .i64 0)), .o (.c (.bool false))], [], []⟩) (fun C => K ((⟨lg ++ (look m (.o (.i id)) ++ look x (.a [.c (.int .i64 a), .c (.int .i64 b)])), [(id, map2O P kT eT N mm)]⟩, ⟨.t [.o (.c (.int .i64 0)), .o (.c (.bool false))], [], []⟩) :: C))) : LX P X ops (o :: l) σ K :=
  x_map2Get hgo hd ho ht hk he hz hm hx hH ha hb (by simp only [hc, Option.getD_none, Option.isSome_none]; exact h)
theorem load_arr {t : Nat} {w : World} {p : Addr} {vs : List Value} (hi : ∀ w, (isAgg t).run P w = .ok true w) (hsz : sizeT P t vs.length = true) (hc : ∀ j v, vs[j]? = some v → w.cell? (p.add j) = some v) : (Instr.loadAt t (.pointer (some p))).run P w = .ok (.agg vs.toArray) w := by
  simp [Instr.loadAt, Instr.sureAddr, loadVar, hi, run_size hsz, run_loadCells_list w p vs hc]
theorem x_loadP (hgo : GOn ops σ o lg) (hd : dstOk o.dst σ.n = true) {t n : Nat} {x : Operand} {id off T : Nat} {cs : List SV} (ho : o.op = .load t x) (hi : ∀ w, (isAgg t).run P w = .ok true w) (hsz : sizeT P t n = true) (hx : opnd σ.F x = some (.o (.p id off))) (hH : σ.H id = some (.box T cs)) (hn : Nat.ble (off + n) cs.length = true)
    (h : LX P X ops l (σ.app o.dst ⟨.a ((cs.drop off).take n), [], []⟩) (fun C => K ((⟨lg ++ look x (.o (.p id off)), [(id, .box T cs)]⟩, ⟨.a ((cs.drop off).take n), [], []⟩) :: C))) : LX P X ops (o :: l) σ K :=
  Lx.val (h := h) hgo.1 hgo.2 hd (look_fits hx) (one_mem hH) (fun σ1 h1 h2 μ ω a w hs1 => by
    obtain ⟨g, vs, hm, _, hb, hc, _⟩ := hs1.box (h2 _ List.mem_cons_self)
    have hl := conL_len hc
    have hn' := Nat.le_of_ble_eq_true hn
    have hlen : ((vs.toList.drop off).take n).length = n := by rw [List.length_take, List.length_drop, hl]; omega
    refine ⟨.agg ((vs.toList.drop off).take n).toArray, ?_, _, rfl, conL_take (conL_drop hc off) n⟩
    unfold execOp
    simp only [ho, hs1.ptr (opnd_of hx h1) hm]
    have := load_arr (P := P) (w := w) (t := t) (p := ⟨g, off, none⟩) (vs := (vs.toList.drop off).take n) hi (by rw [hlen]; exact hsz) (fun j v hj => by
      rw [add_plain, blk_cell hb]
      have hjn : j < n := by have := (List.getElem?_eq_some_iff.1 hj).1; omega
      rw [List.getElem?_take_of_lt hjn, List.getElem?_drop] at hj
      simpa using hj)
    simp [this])
theorem x_storeP (hgo : GOn ops σ o lg) (hd : dstOk o.dst σ.n = true) {t T n : Nat} {x y : Operand} {m : List SV} {id off : Nat} {cs : List SV} (ho : o.op = .store t x y) (hsz : sizeT P t n = true) (hx : opnd σ.F x = some (.o (.p id off))) (hy : opnd σ.F y = some (.a m)) (hH : σ.H id = some (.box T cs)) (h1 : m.all SV.one = true) (hm : m.length = n) (hl : Nat.ble (off + n) cs.length = true)
    (h : LX P X ops l (σ.app o.dst ⟨.o (.c undef), [(id, some (.box T (setL cs off m)))], []⟩) (fun C => K ((⟨lg ++ (look x (.o (.p id off)) ++ look y (.a m)), [(id, .box T cs)]⟩, ⟨.o (.c undef), [(id, some (.box T (setL cs off m)))], []⟩) :: C))) : LX P X ops (o :: l) σ K :=
  Lx.store (av := .a m) hgo hd ho hx hy hH h1 hm hsz (Nat.le_of_ble_eq_true hl) h
theorem x_allocP (hgo : GOn ops σ o lg) (hd : dstOk o.dst σ.n = true) {t : Nat} {z : Value} {id : Nat} (ho : o.op = .alloc t) (hz : (P.info? t).bind (·.zero) = some z) (h1 : (ofV z).one = true) (hid0 : o.dst = some id) (hid : σ.D id = false)
    (h : LX P X ops l (σ.app o.dst ⟨.o (.p id 0), [(id, some (.box t (cellsOf (ofV z))))], [(id, true)]⟩) (fun C => K ((⟨lg ++ [], []⟩, ⟨.o (.p id 0), [(id, some (.box t (cellsOf (ofV z))))], [(id, true)]⟩) :: C))) : LX P X ops (o :: l) σ K :=
  Lx.alloc hgo hd ho hz h1 hid h
theorem x_buildP (hgo : GOn ops σ o lg) (hd : dstOk o.dst σ.n = true) {t e nn : Nat} {ps : List (Nat × Operand)} {avs : List (Nat × AV)} {zs : List Value} {out : List SV} (ho : o.op = .build t ps.toArray) (hu : P.underlying t = some (.array nn e)) (he : (P.info? e).map (·.size) = some 1) (hz : (P.info? t).bind (·.zero) = some (.agg zs.toArray)) (hx : opndL σ.F ps = some avs) (hz1 : zs.all Value.oneCell' = true) (hf : fillA (fun i => some (i * 1, 1)) (zs.map SV.c) avs = some out)
    (h : LX P X ops l (σ.app o.dst ⟨.a out, [], []⟩) (fun C => K ((⟨lg ++ lookL ps avs, []⟩, ⟨.a out, [], []⟩) :: C))) : LX P X ops (o :: l) σ K :=
  Lx.val (h := h) hgo.1 hgo.2 hd (lookL_fits hx) no_mem (fun σ1 h1 h2 μ ω a w hs1 => by
    obtain ⟨i, hi, hz0⟩ := Option.bind_eq_some_iff.1 hz
    obtain ⟨ie, hie, hse⟩ := Option.map_eq_some_iff.1 he
    obtain ⟨cells', hfill, hcon, _, _⟩ := fill_con (cells := zs.toArray) (hs1.evL (opndL_of hx h1)) (by simpa using conL_consts μ zs) (fun u hu => List.all_eq_true.1 hz1 u (by simpa using hu)) hf
    refine ⟨.agg cells', ?_, cells'.toList, by simp, hcon⟩
    have hfill' : Instr.fill (fun i => some (i * 1, 1)) zs.toArray (List.map (fun q => (q.1, a.eval q.2)) ps) = some cells' := by simpa using hfill
    unfold execOp
    simp only [ho]
    simp [Instr.build, zeroValue, typeInfo, hi, hz0, run_underlying hu, Value.cells, sizeOf, hie, hse]
    simp only [Nat.mul_one] at hfill'
    simp [hfill'])
end
end Go.Proofs.Ytplcjkgbjapbmaa.C
