import Derived.Test.YtengkenhmnpbeaaUp
import Derived.Test.YtengkenhmnpbeaaUSave
namespace Go.Proofs.Ytengkenhmnpbeaa.C
open Go.RowKit Go.Proofs.YtengkenhmnpbeaaW Go.Proofs.YtengkenhmnpbeaaW.PrintWords Go.Proofs.Ytengkenhmnpbeaa.U
set_option maxHeartbeats 1000000
set_option maxRecDepth 100000
set_option linter.unusedVariables false
set_option linter.unusedSimpArgs false
/-! Steps over rows of saves. -/
class TSave (P : Program) (t : Nat) (e : outParam Nat) : Prop where
  ok : True
def saveL (id : Nat) (x : Save) : List SV := [.c (.int .i64 x.at_), .i id, .c (.int .i64 x.mark), .c (.int .i64 x.late), .c (.int .i64 x.over)]
def saveU (x : Save) : List (Option Value) := [some (.int .i64 x.at_), none, some (.int .i64 x.mark), some (.int .i64 x.late), some (.int .i64 x.over)]
def saveSet (x : Save) : Nat → Int → Option Save
  | 0, i => some { x with at_ := i }
  | 2, i => some { x with mark := i }
  | 3, i => some { x with late := i }
  | 4, i => some { x with over := i }
  | _, _ => none
theorem conL5 {μ : Mu} {u0 u2 u3 u4 : Value} {id : Nat} : ∀ {vs : List Value}, conL μ [.c u0, .i id, .c u2, .c u3, .c u4] vs → ∃ v, μ id = some v ∧ vs = [u0, v, u2, u3, u4]
  | [a0, a1, a2, a3, a4], ⟨e0, ⟨h1, _⟩, e2, e3, e4, _⟩ => ⟨a1, h1, by rw [show a0 = u0 from e0, show a2 = u2 from e2, show a3 = u3 from e3, show a4 = u4 from e4]⟩
  | [], h => h.elim
  | [_], h => h.2.elim
  | [_, _], h => h.2.2.elim
  | [_, _, _], h => h.2.2.2.elim
  | [_, _, _, _], h => h.2.2.2.2.elim
  | _ :: _ :: _ :: _ :: _ :: _ :: _, h => h.2.2.2.2.2.elim
theorem run_bS {P : Program} {a : Act} {w : World} {t e len sz : Nat} {ps : List (Nat × Operand)} {z : Value} {o : Oper} {cells' : Array Value} {zs : List Value} (ho : o.op = .buildSlice t len ps.toArray) (ht : P.underlying t = some (.slice e)) (hinfo : (P.info? e).map (fun i => (i.zero, i.size)) = some (some z, sz)) (hsm : len * sz ≤ 16777216)
    (hzs : ((Array.range (len * sz)).map (fun i => (if len * sz = 0 then #[] else z.cells)[i % (if len * sz = 0 then #[] else z.cells).size]!)).toList = zs) (hfill : Instr.fill (fun i => some (i * sz, sz)) zs.toArray (List.map (fun q => (q.1, a.eval q.2)) ps) = some cells') (h0 : len * sz ≠ 0) :
    (execOp a.eval o).run P w = .ok (.value (.slice (some ⟨w.heap.size, 0, none⟩) len len)) (w.alloc (.cells cells' e)) := by
  obtain ⟨i, hi, hzz⟩ := Option.map_eq_some_iff.1 hinfo
  simp only [Prod.mk.injEq] at hzz
  obtain ⟨hz0, hsz⟩ := hzz
  have hgt : ¬ (16777216 < len * sz) := by omega
  have hzs' : (Array.range (len * sz)).map (fun i => (if len * sz = 0 then #[] else z.cells)[i % (if len * sz = 0 then #[] else z.cells).size]!) = zs.toArray := by rw [← hzs]
  unfold execOp
  simp only [ho]
  simp only [h0, if_false] at hzs'
  simp only [Instr.buildSlice, Sem.run_bind, run_underlying ht, Result.andThen_ok, sizeOf, typeInfo, run_program, hi, Sem.run_pure, hsz]
  simp [zeroValue, typeInfo, hi, hz0, h0, hgt]
  simp only [hzs', hfill]
  simp [newRow]
section
variable {P : Program} {X : Cx} {ops : Array Oper} {o : Oper} {l : List Oper} {σ : St} {K : List (Pre × Eff) → St → Prop} {lg : List (Nat × AV)} {μ : Mu} {ω : Om} {a : Act} {w : World}
theorem ro_save (hS : ∀ k, ¬ X.S k) (hs : Sat X σ μ ω a w) {id e ix : Nat} {xs : List Save} (hH : σ.H id = some (.ro (kSave e) xs)) {y : Save} (hy : xs[ix]? = some y) :
    ∃ ad c A' c', μ id = some (.slice (some ad) xs.length c) ∧ (∀ (j : Nat) u, ([.int .i64 y.at_, .slice A' y.aggs.length c', .int .i64 y.mark, .int .i64 y.late, .int .i64 y.over] : List Value)[j]? = some u → w.cell? (ad.add (ix * 5 + j)) = some u) ∧ y.aggs.length ≤ c' ∧ ∀ W, Kp X.w0 W X.S → kAgg.C W A' y.aggs.length y.aggs := by
  obtain ⟨v, hv, hno, A, c, rfl, hl, hC⟩ := hs.obj id _ hH
  have hlt := (List.getElem?_eq_some_iff.1 hy).1
  obtain ⟨hC1, hC2, hC3⟩ := hC X.w0 (Kp.refl _ _)
  obtain ⟨ad, rfl, hcells⟩ := hC3 (by omega)
  obtain ⟨cs, hlen, hK, hcell⟩ := hcells ix y hy
  obtain ⟨A', c', rfl, h2, h3⟩ := kSave_K.1 hK
  refine ⟨ad, c, A', c', hv, fun j u hu => ?_, h2, fun W hW => Kd.C_below h3 (hW.to_below hS)⟩
  have h4 : X.w0.cell? (ad.add (ix * 5 + j)) = some u := hcell j u hu
  exact (World.cell?_of_block (hs.kept.kept.2 _ (World.block_lt_of_cell? _ _ h4) (hS _))).trans h4
theorem Rdb.saveU {e ix off : Nat} {b : AObj} {xs : List Save} {y : Save} {u : Value} {id : Nat} (hr : Rdb (kSave e) xs b) (hs : Sat X σ μ ω a w) (hH : σ.H id = some b) (hy : xs[ix]? = some y) (hu : (saveU y)[off]? = some (some u)) : ∃ ad c, μ id = some (.slice (some ad) xs.length c) ∧ w.cell? (ad.add (ix * 5 + off)) = some u := by
  obtain ⟨A, c, hm, hl, hC⟩ := hr.get hs hH
  have hlt := (List.getElem?_eq_some_iff.1 hy).1
  obtain ⟨ad, rfl, hcells⟩ := hC.2.2 (by omega)
  obtain ⟨cs, hlen, hK, hcell⟩ := hcells ix y hy
  obtain ⟨A', c', rfl, h2, h3⟩ := kSave_K.1 hK
  refine ⟨ad, c, hm, hcell off u ?_⟩
  match off, hu with
  | 0, hu => simpa [C.saveU] using hu
  | 1, hu => simp [C.saveU] at hu
  | 2, hu => simpa [C.saveU] using hu
  | 3, hu => simpa [C.saveU] using hu
  | 4, hu => simpa [C.saveU] using hu
  | n + 5, hu => simp [C.saveU] at hu
section
variable (hgo : GOn ops σ o lg) (hd : dstOk o.dst σ.n = true)
include hgo hd
/-- A save (or its shard) of a row that is read. -/
theorem x_loadD {t n : Nat} {pl : List (Nat × Nat)} {zs : List Value} [ht : TStruct P t n pl zs] {x : Operand} {id ix off nid e : Nat} {xs : List Save} {y : Save} (hS : ∀ k, ¬ X.S k) (ho : o.op = .load t x) (hx : opnd σ.F x = some (.o (.e id 5 ix off))) (hH : σ.H id = some (.ro (kSave e) xs)) (hy : xs[ix]? = some y) (hn : Nat.ble (off + n) 5 = true) (hid0 : o.dst = some nid) (hid : σ.D nid = false)
    (h : LX P X ops l (σ.app o.dst ⟨.a (((saveL nid y).drop off).take n), [(nid, some (.ro kAgg y.aggs))], [(nid, true)]⟩) (fun C => K ((⟨lg ++ look x (.o (.e id 5 ix off)), [(id, .ro (kSave e) xs)]⟩, ⟨.a (((saveL nid y).drop off).take n), [(nid, some (.ro kAgg y.aggs))], [(nid, true)]⟩) :: C))) : LX P X ops (o :: l) σ K :=
  Lx.run (h := h) (e := ⟨.a (((saveL nid y).drop off).take n), [(nid, some (.ro kAgg y.aggs))], [(nid, true)]⟩) hgo.1 hgo.2 (look_fits hx) (one_mem hH) (one_mem hid) (fun σ1 hn1 h2 h4 h3 μ ω a w hs1 K Q hK => by
    have hH1 : σ1.H id = some (.ro (kSave e) xs) := h4 _ List.mem_cons_self
    have hid1 : σ1.D nid = false := h3 _ List.mem_cons_self
    have hn' := Nat.le_of_ble_eq_true hn
    obtain ⟨ad, c, A', c', hm, hcell, hlc, hC⟩ := ro_save hS hs1 hH1 hy
    obtain ⟨A1, n1, c1, hm', hv'⟩ := hs1.ev (opnd_of hx h2)
    rw [hm] at hm'
    cases hm'
    generalize hvs : ([.int .i64 y.at_, .slice A' y.aggs.length c', .int .i64 y.mark, .int .i64 y.late, .int .i64 y.over] : List Value) = vs at hcell
    have hvl : vs.length = 5 := by rw [← hvs]; rfl
    have hlen : ((vs.drop off).take n).length = n := by rw [List.length_take, List.length_drop, hvl]; omega
    have hrun : (execOp a.eval o).run P w = .ok (.value (.agg ((vs.drop off).take n).toArray)) w := by
      unfold execOp
      simp only [ho, hv']
      have := load_agg (P := P) (w := w) (t := t) (p := ⟨(ad.add (ix * 5)).block, (ad.add (ix * 5)).off + off, none⟩) (vs := (vs.drop off).take n) (by rw [hlen]; exact ht.a) (fun j v hj => by
        rw [add_plain]
        have hjn : j < n := by have := (List.getElem?_eq_some_iff.1 hj).1; omega
        rw [List.getElem?_take_of_lt hjn, List.getElem?_drop] at hj
        have := cell_off (hcell (off + j) v hj)
        rwa [Nat.add_assoc])
      simp [this]
    unfold Oper.wp
    rw [hrun]
    have hadd := hs1.add (id := nid) (o := .ro kAgg y.aggs) (v := .slice A' y.aggs.length c') (own := No_) hid1 ⟨fun _ h => h, A', c', rfl, hlc, hC⟩ (fun k hk => hk.elim) (fun _ _ _ _ _ h => h)
    refine hK _ _ _ _ (hadd.put (av := .a (((saveL nid y).drop off).take n)) (dstOk_spec (hn1 ▸ hd)) ⟨(vs.drop off).take n, rfl, conL_take (conL_drop ?_ off) n⟩)
    rw [← hvs]
    exact ⟨rfl, ⟨upd_same _ _ _, rfl⟩, rfl, rfl, rfl, trivial⟩)
/-- The row of a save of a row that is read. -/
theorem x_loadD1 {t : Nat} [ht : TPlain P t] {x : Operand} {id ix nid e : Nat} {xs : List Save} {y : Save} (hS : ∀ k, ¬ X.S k) (ho : o.op = .load t x) (hx : opnd σ.F x = some (.o (.e id 5 ix 1))) (hH : σ.H id = some (.ro (kSave e) xs)) (hy : xs[ix]? = some y) (hid0 : o.dst = some nid) (hid : σ.D nid = false)
    (h : LX P X ops l (σ.app o.dst ⟨.o (.i nid), [(nid, some (.ro kAgg y.aggs))], [(nid, true)]⟩) (fun C => K ((⟨lg ++ look x (.o (.e id 5 ix 1)), [(id, .ro (kSave e) xs)]⟩, ⟨.o (.i nid), [(nid, some (.ro kAgg y.aggs))], [(nid, true)]⟩) :: C))) : LX P X ops (o :: l) σ K :=
  Lx.run (h := h) (e := ⟨.o (.i nid), [(nid, some (.ro kAgg y.aggs))], [(nid, true)]⟩) hgo.1 hgo.2 (look_fits hx) (one_mem hH) (one_mem hid) (fun σ1 hn1 h2 h4 h3 μ ω a w hs1 K Q hK => by
    have hH1 : σ1.H id = some (.ro (kSave e) xs) := h4 _ List.mem_cons_self
    have hid1 : σ1.D nid = false := h3 _ List.mem_cons_self
    obtain ⟨ad, c, A', c', hm, hcell, hlc, hC⟩ := ro_save hS hs1 hH1 hy
    obtain ⟨A1, n1, c1, hm', hv'⟩ := hs1.ev (opnd_of hx h2)
    rw [hm] at hm'
    cases hm'
    have hrun : (execOp a.eval o).run P w = .ok (.value (.slice A' y.aggs.length c')) w := by
      unfold execOp
      simp only [ho, hv']
      simp [load_one ht.h (cell_off (hcell 1 _ rfl))]
    unfold Oper.wp
    rw [hrun]
    have hadd := hs1.add (id := nid) (o := .ro kAgg y.aggs) (v := .slice A' y.aggs.length c') (own := No_) hid1 ⟨fun _ h => h, A', c', rfl, hlc, hC⟩ (fun k hk => hk.elim) (fun _ _ _ _ _ h => h)
    exact hK _ _ _ _ (hadd.put (av := .o (.i nid)) (dstOk_spec (hn1 ▸ hd)) ⟨upd_same _ _ _, rfl⟩))
/-- A number of a save. -/
theorem x_loadDf {t : Nat} [ht : TPlain P t] {x : Operand} {id ix off e : Nat} {b : AObj} {xs : List Save} {y : Save} {u : Value} (ho : o.op = .load t x) (hx : opnd σ.F x = some (.o (.e id 5 ix off))) (hH : σ.H id = some b) (hr : Rdb (kSave e) xs b) (hy : xs[ix]? = some y) (hu : (saveU y)[off]? = some (some u))
    (h : LX P X ops l (σ.app o.dst ⟨.o (.c u), [], []⟩) (fun C => K ((⟨lg ++ look x (.o (.e id 5 ix off)), [(id, b)]⟩, ⟨.o (.c u), [], []⟩) :: C))) : LX P X ops (o :: l) σ K :=
  Lx.val (h := h) hgo.1 hgo.2 hd (look_fits hx) (one_mem hH) (fun σ1 h1 h2 μ ω a w hs1 => by
    obtain ⟨ad, c, hm, hcell⟩ := hr.saveU hs1 (h2 _ List.mem_cons_self) hy hu
    obtain ⟨A', n', c', hm', hv'⟩ := hs1.ev (opnd_of hx h1)
    rw [hm] at hm'
    cases hm'
    refine ⟨u, ?_, rfl⟩
    unfold execOp
    simp only [ho, hv']
    simp [load_one ht.h (cell_off hcell)])
/-- []Save with one save. -/
theorem x_buildSD {t t' n by_ : Nat} {z : Value} [hs : TSlice P t t'] [he : TElem P t' n by_ z] {ps : List (Nat × Operand)} {avs : List (Nat × AV)} {id nid e : Nat} {p q r s : Int} {ag : List Agg} (hn : n = 5) (ho : o.op = .buildSlice t 1 ps.toArray) (hx : opndL σ.F ps = some avs)
    (hfl : fillA (fun i => some (i * 5, 5)) ((zrep 1 z.cells.toList).map SV.c) avs = some [.c (.int .i64 p), .i id, .c (.int .i64 q), .c (.int .i64 r), .c (.int .i64 s)]) (hH : σ.H id = some (.row kAgg e ag)) (hid0 : o.dst = some nid) (hid : σ.D nid = false)
    (h : LX P X ops l (σ.app o.dst ⟨.o (.i nid), [(id, none), (nid, some (.row (kSave e) t' [⟨p, ag, q, r, s⟩]))], [(nid, true)]⟩) (fun C => K ((⟨lg ++ lookL ps avs, [(id, .row kAgg e ag)]⟩, ⟨.o (.i nid), [(id, none), (nid, some (.row (kSave e) t' [⟨p, ag, q, r, s⟩]))], [(nid, true)]⟩) :: C))) : LX P X ops (o :: l) σ K :=
  Lx.run (h := h) (e := ⟨.o (.i nid), [(id, none), (nid, some (.row (kSave e) t' [⟨p, ag, q, r, s⟩]))], [(nid, true)]⟩) hgo.1 hgo.2 (lookL_fits hx) (one_mem hH) (one_mem hid) (fun σ1 hn1 h1 h4 h3 μ ω a w hs1 K Q hK => by
    subst hn
    have hH1 : σ1.H id = some (.row kAgg e ag) := h4 _ List.mem_cons_self
    have hid1 : σ1.D nid = false := h3 _ List.mem_cons_self
    have hzl : (zrep 1 z.cells.toList).all Value.oneCell' = true := zrep_all he.o 1
    obtain ⟨cells', hfill, hcon, _, _⟩ := fill_con (cells := (zrep 1 z.cells.toList).toArray) (hs1.evL (opndL_of hx h1)) (by simpa using conL_consts μ (zrep 1 z.cells.toList)) (fun u hu => List.all_eq_true.1 hzl u (by simpa using hu)) hfl
    obtain ⟨v, hv, hcells⟩ := conL5 hcon
    have hcells' : cells' = [.int .i64 p, v, .int .i64 q, .int .i64 r, .int .i64 s].toArray := by rw [← hcells]
    have hi : (P.info? t').map (fun i => (i.zero, i.size)) = some (some z, 5) := by
      obtain ⟨i, hi, hz⟩ := Option.map_eq_some_iff.1 he.h
      simp only [Prod.mk.injEq] at hz
      simp [hi, hz.1, hz.2.1]
    have hrun := run_bS (P := P) (a := a) (w := w) ho hs.h hi (by decide) (zrep_eq he.c he.n) hfill (by decide)
    unfold Oper.wp
    rw [hrun]
    obtain ⟨v', hv', B, hS⟩ := hs1.obj id _ hH1
    rw [hv] at hv'
    cases hv'
    have hR := Kd.R_lower (Kd.S_R hS) (Nat.zero_le B)
    obtain ⟨A, m, c, rfl⟩ := slice_of_R hR
    have hb : (w.alloc (.cells cells' t')).heap[w.heap.size]? = some (.cells (([(⟨p, A, m, c, q, r, s⟩ : SaveC)].flatMap SaveC.enc).toArray) t' (0, 0)) := by
      rw [hcells']
      exact blk_new _ _
    have hrow := row_of_cells (d := kSaveC) (e := t') (base := 0) (ok := fun k => k = w.heap.size ∨ ω id k) kSaveC_flat hb (Nat.zero_le _) (.inl rfl) (by simp)
    have hlt : ∀ k, ω id k → k < w.heap.size := fun k hk => (hs1.own id _ hH1 k hk).2
    have hinn : Inn e (w.alloc (.cells cells' t')) (fun k => k = w.heap.size ∨ ω id k) (.slice (some ⟨w.heap.size, 0, none⟩) 1 1) (fun _ => 0) [⟨p, A, m, c, q, r, s⟩] [⟨p, ag, q, r, s⟩] := by
      refine ⟨rfl, fun j y x hy hx => ?_⟩
      match j, hy, hx with
      | 0, hy, hx =>
        simp at hy hx
        subst hy hx
        refine Inn1.step (w := w) (ok := ω id) ⟨rfl, rfl, rfl, rfl, hR⟩ (fun k hk hk2 => (below_alloc (Below.refl _ _) _).block k hk2) (fun k hk _ => ⟨⟨.inr hk, fun e => ?_⟩, rfl⟩)
        have := hlt k hk
        simp [Value.ownBlock] at e
        omega
      | j + 1, hy, _ => simp at hy
    refine hK _ _ _ _ ((hs1.turn (id := id) (id1 := nid) (o1 := .row (kSave e) t' [⟨p, ag, q, r, s⟩]) (v := .slice (some ⟨w.heap.size, 0, none⟩) 1 1) (own := fun k => k = w.heap.size ∨ ω id k) hH1 hid1 ((Kp.alloc w _).mono (fun _ h => h.elim)) ⟨0, save_close hrow hinn⟩ (fun k hk => ?_)).put (av := .o (.i nid)) (dstOk_spec (hn1 ▸ hd)) ⟨upd_same _ _ _, rfl⟩)
    rcases hk with rfl | hk
    · exact .inr ⟨Nat.le_refl _, by simp⟩
    · exact .inl hk)
end
/-- Two objects that are used up, and one made of them. -/
theorem Sat.turn2 (h : Sat X σ μ ω a w) {id id2 id1 : Nat} {o o2 o1 : AObj} {v : Value} {own : Nat → Prop} {w1 : World} (hH : σ.H id = some o) (hH2 : σ.H id2 = some o2) (hid : σ.D id1 = false) (hw : Kp w w1 (ω id)) (ho : o1.holds X w1 (upd μ id1 (some v)) v own) (hown : ∀ k, own k → ω id k ∨ ω id2 k ∨ (w.heap.size ≤ k ∧ k < w1.heap.size)) :
    Sat X { σ with H := upd (upd (upd σ.H id none) id2 none) id1 (some o1), D := upd σ.D id1 true } (upd μ id1 (some v)) (upd ω id1 own) a w1 := by
  have h0 := h.made id1 hid
  have hT : ∀ k, (ω id k ∨ ω id2 k) → X.S k ∨ X.w0.heap.size ≤ k := fun k hk => hk.elim (fun hk => (h.own id o hH k hk).1) (fun hk => (h.own id2 o2 hH2 k hk).1)
  refine h.gen (T := fun k => ω id k ∨ ω id2 k) rfl rfl (hw.mono (fun _ h => .inl h)) hT (fun j u hu => ?_) (fun j hj => ?_) (fun j => j = id1) (fun j oj hj => ?_) (fun i j hi hj hne => absurd (hi.trans hj.symm) hne) (fun q hq => upd_ne _ (fun e => by have := (h.anc q hq).1; rw [e, h0] at this; cases this) _)
  · rw [upd_ne _ (fun e => by rw [e, h0] at hu; cases hu)]; exact hu
  · by_cases e : j = id1
    · subst e; simp [upd_same] at hj
    · rw [upd_ne _ e]; exact h.made j (by simpa [upd_ne _ e] using hj)
  · by_cases e : j = id1
    · subst e
      simp only [upd_same] at hj
      cases hj
      refine .inr ⟨rfl, ⟨v, upd_same _ _ _, by rw [upd_same]; exact ho⟩, fun k hk => ?_⟩
      rw [upd_same] at hk
      rcases hown k hk with h1 | h1 | h1
      · exact ⟨.inl (.inl h1), Nat.lt_of_lt_of_le (h.own id o hH k h1).2 hw.size⟩
      · exact ⟨.inl (.inr h1), Nat.lt_of_lt_of_le (h.own id2 o2 hH2 k h1).2 hw.size⟩
      · exact ⟨.inr h1.1, h1.2⟩
    · simp only [upd_ne _ e] at hj
      by_cases e3 : j = id2
      · subst e3; simp [upd_same] at hj
      rw [upd_ne _ e3] at hj
      by_cases e2 : j = id
      · subst e2; simp [upd_same] at hj
      rw [upd_ne _ e2] at hj
      exact .inl ⟨e, hj, upd_ne _ e _, fun k hk hk2 => hk2.elim (fun hk2 => h.sep j id oj o hj hH e2 k hk hk2) (fun hk2 => h.sep j id2 oj o2 hj hH2 e3 k hk hk2)⟩
open Classical in
theorem inn_append {e t : Nat} {w w1 : World} {o1 o2 : Nat → Prop} {v v2 v1 : Value} {f1 f2 : Nat → Nat} {cs ds : List SaveC} {xs ys : List Save} (h1 : Inn e w o1 v f1 cs xs) (h2 : Inn e w o2 v2 f2 ds ys) (hsep : ∀ k, o1 k → ¬ o2 k) (hv : ∀ k, v.ownBlock = some k → o1 k) (hg : w.grownBy w1 v.ownBlock) (hat : v1.ownBlock = v.ownBlock ∨ ∃ b, v1.ownBlock = some b ∧ w.heap.size ≤ b) :
    Inn e w1 (fun k => (o1 k ∨ o2 k ∨ w.heap.size ≤ k) ∧ k < w1.heap.size) v1 (fun k => if o2 k then xs.length + f2 k else f1 k) (cs ++ ds) (xs ++ ys) := by
  have hne : ∀ k, some k ≠ v.ownBlock → k < w.heap.size → some k ≠ v1.ownBlock := fun k hk hlt e => by
    rcases hat with h | ⟨b, h, hb⟩
    · exact hk (e.trans h)
    · rw [h] at e
      injection e with e
      omega
  refine ⟨by simp [h1.1, h2.1], fun j y x hy hx => ?_⟩
  rcases Nat.lt_or_ge j cs.length with hj | hj
  · rw [List.getElem?_append_left hj] at hy
    rw [List.getElem?_append_left (by rw [← h1.1]; exact hj)] at hx
    refine (h1.2 j y x hy hx).step (fun k hk hlt => hg.block k hlt hk.1.2) (fun k hk hlt => ⟨⟨⟨.inl hk.1.1, Nat.lt_of_lt_of_le hlt hg.size⟩, hne k hk.1.2 hlt⟩, ?_⟩)
    dsimp only
    rw [if_neg (hsep k hk.1.1)]
    exact hk.2
  · rw [List.getElem?_append_right hj] at hy
    rw [List.getElem?_append_right (by rw [← h1.1]; exact hj), ← h1.1] at hx
    have hko : ∀ k, o2 k → some k ≠ v.ownBlock := fun k hk e => hsep k (hv k e.symm) hk
    refine (h2.2 _ y x hy hx).step (fun k hk hlt => hg.block k hlt (hko k hk.1.1)) (fun k hk hlt => ⟨⟨⟨.inr (.inl hk.1.1), Nat.lt_of_lt_of_le hlt hg.size⟩, hne k (hko k hk.1.1) hlt⟩, ?_⟩)
    dsimp only
    rw [if_pos hk.1.1, hk.2, ← h1.1]
    omega
section
variable (hgo : GOn ops σ o lg) (hd : dstOk o.dst σ.n = true)
include hgo hd
/-- append(s, x...) of saves. -/
theorem x_appendD {s x : Operand} {id id2 nid t t' t2 n by_ e : Nat} {z : Value} [hs : TSlice P t t'] [he : TElem P t' n by_ z] {xs ys : List Save} (hn : n = 5) (ho : o.op = .call { callee := .builtin .append, args := #[s, x], argTypes := #[t, t] }) (hsx : opnd σ.F s = some (.o (.i id))) (hx : opnd σ.F x = some (.o (.i id2))) (hne : Nat.beq id id2 = false) (hH : σ.H id = some (.row (kSave e) t' xs)) (hH2 : σ.H id2 = some (.row (kSave e) t2 ys))
    (hl : (xs.length + ys.length) * by_ ≤ 140737488355328) (hid0 : o.dst = some nid) (hid : σ.D nid = false)
    (h : LX P X ops l (σ.app o.dst ⟨.o (.i nid), [(id, none), (id2, none), (nid, some (.row (kSave e) t' (xs ++ ys)))], [(nid, true)]⟩) (fun C => K ((⟨lg ++ (look s (.o (.i id)) ++ look x (.o (.i id2))), [(id, .row (kSave e) t' xs), (id2, .row (kSave e) t2 ys)]⟩, ⟨.o (.i nid), [(id, none), (id2, none), (nid, some (.row (kSave e) t' (xs ++ ys)))], [(nid, true)]⟩) :: C))) : LX P X ops (o :: l) σ K :=
  Lx.run (h := h) (e := ⟨.o (.i nid), [(id, none), (id2, none), (nid, some (.row (kSave e) t' (xs ++ ys)))], [(nid, true)]⟩) hgo.1 hgo.2 (mem_app (look_fits hsx) (look_fits hx)) (two_mem hH hH2) (one_mem hid) (fun σ1 hn1 h2 h4 h3 μ ω a w hs1 K Q hK => by
    subst hn
    have hidne : id ≠ id2 := fun e => by subst e; simp at hne
    have hH1 : σ1.H id = some (.row (kSave e) t' xs) := h4 _ List.mem_cons_self
    have hH3 : σ1.H id2 = some (.row (kSave e) t2 ys) := h4 (id2, .row (kSave e) t2 ys) (by simp)
    have hid1 : σ1.D nid = false := h3 _ List.mem_cons_self
    have es := hs1.ev (opnd_of hsx (app_l h2))
    have ex := hs1.ev (opnd_of hx (app_r h2))
    obtain ⟨v, hv, B, hS⟩ := hs1.obj id _ hH1
    obtain ⟨v2, hv2, B2, hS2⟩ := hs1.obj id2 _ hH3
    obtain ⟨f1, cs, hR, hI⟩ := save_open hS
    obtain ⟨f2, ds, hR2, hI2⟩ := save_open hS2
    obtain ⟨A2, c2, rfl, hl2, hC2⟩ := Kd.R_reads hR2
    have ev : a.eval s = v := by have := es.1; rw [hv] at this; injection this with this; exact this.symm
    have ev2 : a.eval x = .slice A2 ds.length c2 := by have := ex.1; rw [hv2] at this; injection this with this; exact this.symm
    have hR' : kSaveC.R t' w 0 (fun k => ω id k ∨ w.heap.size ≤ k) v cs := Kd.R_mono hR (fun k hk => .inl hk)
    have hrow : ∀ k, v.ownBlock = some k → ω id k := hR.1
    have hgo := Kd.R_append_rows_step (P := P) (ops := #[]) (o := { o with guard := none }) (a := a) (Q := Q) (Kc := K) kSaveC (Rr := kSaveC.K w) (w0 := w) (W := w) 0 (by simp [Region.wanted]) s x t t' z by_ ho hs.h he.h he.c he.n he.b v cs ds A2 ds.length c2 (fun k => ω id k ∨ w.heap.size ≤ k) (fun _ => False) ev ev2 hR' hC2 (fun y cs hy => (kSaveC_flat.2 _ _ _ _ _).2 ((kSaveC_flat.1 _ _ _).1 hy)) (fun _ hk => hk.elim) (fun k hk => .inr hk) (Below.refl _ _) (Nat.zero_le _) (by rw [hI.1, hI2.1]; exact hl) (fun v1 w1 hR1 hb1 hg1 hat1 => by
      obtain ⟨A1, c1, e1⟩ := Kd.R_slice hR1
      have hinn := inn_append (t := t) hI hI2 (fun k hk hk2 => hs1.sep id id2 _ _ hH1 hH3 hidne k hk hk2) hrow hg1 hat1
      have hR1' : kSaveC.R t' w1 0 (fun k => (ω id k ∨ ω id2 k ∨ w.heap.size ≤ k) ∧ k < w1.heap.size) v1 (cs ++ ds) := Kd.R_mono (Kd.R_bound hR1) (fun k hk => ⟨hk.1.elim .inl (fun h => .inr (.inr h)), hk.2.2.1⟩)
      refine hK _ _ _ _ ((hs1.turn2 (id := id) (id2 := id2) (id1 := nid) (o1 := .row (kSave e) t' (xs ++ ys)) (v := v1) (own := fun k => (ω id k ∨ ω id2 k ∨ w.heap.size ≤ k) ∧ k < w1.heap.size) hH1 hH3 hid1 ((Kp.of_grown hg1).mono hrow) ⟨0, save_close hR1' hinn⟩ (fun k hk => hk.1.imp (fun h => h) (fun h => h.imp (fun h => h) (fun h => ⟨h, hk.2⟩)))).put (av := .o (.i nid)) (dstOk_spec (hn1 ▸ hd)) ⟨upd_same _ _ _, by rw [e1]; rfl⟩))
    rw [if_pos (by simp [Region.wanted])] at hgo
    exact hgo)
/-- make([]Save, n). -/
theorem x_makeSD {t t' n by_ e : Nat} {z : Value} [hs : TSlice P t t'] [he : TElem P t' n by_ z] [_hv : TSave P t' e] {x y : Operand} {m nid : Nat} (hn : n = 5) (ho : o.op = .makeSlice t x y) (hx : opnd σ.F x = some (.o (.c (.int .i64 (m : Int))))) (hy : opnd σ.F y = some (.o (.c (.int .i64 (m : Int))))) (hz0 : z.cells.toList = SaveC.enc ⟨0, none, 0, 0, 0, 0, 0⟩) (hl : m * by_ ≤ 140737488355328) (hid0 : o.dst = some nid) (hid : σ.D nid = false)
    (h : LX P X ops l (σ.app o.dst ⟨.o (.i nid), [(nid, some (.row (kSave e) t' (List.replicate m ⟨0, [], 0, 0, 0⟩)))], [(nid, true)]⟩) (fun C => K ((⟨lg ++ (look x (.o (.c (.int .i64 (m : Int)))) ++ look y (.o (.c (.int .i64 (m : Int))))), []⟩, ⟨.o (.i nid), [(nid, some (.row (kSave e) t' (List.replicate m ⟨0, [], 0, 0, 0⟩)))], [(nid, true)]⟩) :: C))) : LX P X ops (o :: l) σ K :=
  Lx.run (h := h) (ph := []) (e := ⟨.o (.i nid), [(nid, some (.row (kSave e) t' (List.replicate m ⟨0, [], 0, 0, 0⟩)))], [(nid, true)]⟩) hgo.1 hgo.2 (mem_app (look_fits hx) (look_fits hy)) no_mem (one_mem hid) (fun σ1 hn1 h1 _ h3 μ ω a w hs1 K Q hK => by
    subst hn
    have hid1 : σ1.D nid = false := h3 _ List.mem_cons_self
    have ex := hs1.val (opnd_of hx (app_l h1))
    have ey := hs1.val (opnd_of hy (app_r h1))
    obtain ⟨i0, hi, hzz⟩ := Option.map_eq_some_iff.1 he.h
    simp only [Prod.mk.injEq] at hzz
    obtain ⟨hz1, hz2, hz3⟩ := hzz
    have hm : m ≤ 140737488355328 := Nat.le_trans (Nat.le_mul_of_pos_right _ he.b) hl
    have hr := run_make (P := P) w t t' i0 z hs.h hi hz1 .i64 .i64 (m : Int) (m : Int) (by omega) (by omega)
      (by
        have h3 : ((i0.bytes * m : Nat) : Int) ≤ 281474976710656 := by rw [hz3, Nat.mul_comm]; omega
        rwa [Int.natCast_mul] at h3) (by omega)
    simp only [Int.toNat_natCast] at hr
    rw [hz2] at hr
    have hrun : (execOp a.eval o).run P w = .ok (.value (.slice (some ⟨w.heap.size, 0, none⟩) m m)) (w.alloc (.cells (madeCells z.cells (m * 5)) t')) := by
      unfold execOp
      simp [ho, ex, ey, hr]
    have hcells : madeCells z.cells (m * 5) = ((List.replicate m (⟨0, none, 0, 0, 0, 0, 0⟩ : SaveC)).flatMap SaveC.enc).toArray := by
      have hrep : ∀ k, (List.replicate k (⟨0, none, 0, 0, 0, 0, 0⟩ : SaveC)).flatMap SaveC.enc = zrep k z.cells.toList := by
        intro k
        induction k with
        | zero => rfl
        | succ k ih => rw [List.replicate_succ, List.flatMap_cons, ih, zrep, hz0]
      rw [hrep]
      have := zrep_eq (len := m) he.c he.n
      by_cases h0 : m * 5 = 0
      · have hm0 : m = 0 := by omega
        subst hm0
        simp [madeCells, zrep]
      · simp only [h0, if_false] at this
        apply Array.ext'
        rw [← this]
        rfl
    have hrow := row_of_cells (w := w.alloc (.cells (madeCells z.cells (m * 5)) t')) (d := kSaveC) (g := w.heap.size) (e := t') (base := 0) (ok := fun k => k = w.heap.size) (xs := List.replicate m ⟨0, none, 0, 0, 0, 0, 0⟩) kSaveC_flat (by rw [← hcells]; exact blk_new _ _) (Nat.zero_le _) rfl (by simp; omega)
    rw [List.length_replicate] at hrow
    unfold Oper.wp
    rw [hrun]
    have hinn : Inn e (w.alloc (.cells (madeCells z.cells (m * 5)) t')) (fun k => k = w.heap.size) (.slice (some ⟨w.heap.size, 0, none⟩) m m) (fun _ => 0) (List.replicate m ⟨0, none, 0, 0, 0, 0, 0⟩) (List.replicate m ⟨0, [], 0, 0, 0⟩) := by
      refine ⟨by simp, fun j y x hy hx => ?_⟩
      rw [List.getElem?_replicate] at hy hx
      split at hy
      · rename_i hj
        rw [if_pos hj] at hx
        cases hy
        cases hx
        exact ⟨rfl, rfl, rfl, rfl, Kd.R_nil _ _ _ _ _⟩
      · cases hy
    refine hK _ _ _ _ ((hs1.new (id := nid) (o := .row (kSave e) t' (List.replicate m ⟨0, [], 0, 0, 0⟩)) (v := .slice (some ⟨w.heap.size, 0, none⟩) m m) (own := fun k => k = w.heap.size) hid1 (Kp.alloc w _) ⟨0, save_close hrow hinn⟩ (fun k hk => ?_)).put (av := .o (.i nid)) (dstOk_spec (hn1 ▸ hd)) ⟨upd_same _ _ _, rfl⟩)
    subst hk; simp)
end
end
section
variable {P : Program} {X : Cx} {ops : Array Oper} {o : Oper} {l : List Oper} {σ : St} {K : List (Pre × Eff) → St → Prop} {lg : List (Nat × AV)}
/-- []Save with none. -/
theorem x_buildSN (hgo : GOn ops σ o lg) (hd : dstOk o.dst σ.n = true) {t t' n by_ e : Nat} {z : Value} [hs : TSlice P t t'] [he : TElem P t' n by_ z] [_hv : TSave P t' e] {nid : Nat} (hn : n = 5) (ho : o.op = .buildSlice t 0 #[]) (hid0 : o.dst = some nid) (hid : σ.D nid = false)
    (h : LX P X ops l (σ.app o.dst ⟨.o (.i nid), [(nid, some (.row (kSave e) t' []))], [(nid, true)]⟩) (fun C => K ((⟨lg ++ [], []⟩, ⟨.o (.i nid), [(nid, some (.row (kSave e) t' []))], [(nid, true)]⟩) :: C))) : LX P X ops (o :: l) σ K :=
  Lx.run (h := h) (p := []) (ph := []) (e := ⟨.o (.i nid), [(nid, some (.row (kSave e) t' []))], [(nid, true)]⟩) hgo.1 hgo.2 no_mem no_mem (one_mem hid) (fun σ1 hn1 _ _ h3 μ ω a w hs1 K Q hK => by
    subst hn
    have hid1 : σ1.D nid = false := h3 _ List.mem_cons_self
    obtain ⟨i, hi, hzz⟩ := Option.map_eq_some_iff.1 he.h
    simp only [Prod.mk.injEq] at hzz
    obtain ⟨hz0, hsz, _⟩ := hzz
    have hrun : (execOp a.eval o).run P w = .ok (.value (.slice (some ⟨w.heap.size, 0, none⟩) 0 0)) (w.alloc (.cells #[] t')) := by
      unfold execOp
      simp only [ho]
      simp only [Instr.buildSlice, Sem.run_bind, run_underlying hs.h, Result.andThen_ok, sizeOf, typeInfo, run_program, hi, Sem.run_pure, hsz, Nat.zero_mul, show ∀ f : Nat → Value, Array.map f (Array.range 0) = #[] from fun f => by simp]
      simp [Instr.fill, newRow]
    have hrow := row_of_cells (w := w.alloc (.cells #[] t')) (d := kSaveC) (g := w.heap.size) (e := t') (base := 0) (ok := fun k => k = w.heap.size) (xs := []) kSaveC_flat (blk_new _ _) (Nat.zero_le _) rfl (by simp)
    have hinn : Inn e (w.alloc (.cells #[] t')) (fun k => k = w.heap.size) (.slice (some ⟨w.heap.size, 0, none⟩) 0 0) (fun _ => 0) [] [] := ⟨rfl, fun j y x hy hx => by simp at hy⟩
    unfold Oper.wp
    rw [hrun]
    refine hK _ _ _ _ ((hs1.new (id := nid) (o := .row (kSave e) t' []) (v := .slice (some ⟨w.heap.size, 0, none⟩) 0 0) (own := fun k => k = w.heap.size) hid1 (Kp.alloc w _) ⟨0, save_close hrow hinn⟩ (fun k hk => ?_)).put (av := .o (.i nid)) (dstOk_spec (hn1 ▸ hd)) ⟨upd_same _ _ _, rfl⟩)
    subst hk; simp)
end
end Go.Proofs.Ytengkenhmnpbeaa.C
