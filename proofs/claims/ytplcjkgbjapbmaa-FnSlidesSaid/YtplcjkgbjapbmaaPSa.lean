import Derived.Test.YtplcjkgbjapbmaaUp
import Derived.Test.YtplcjkgbjapbmaaUAxh
import Derived.Test.YtplcjkgbjapbmaaPMb
namespace Go.Proofs.Ytplcjkgbjapbmaa.C
open Go.RowKit Go.Proofs.YtplcjkgbjapbmaaW Go.Proofs.YtplcjkgbjapbmaaW.PrintWords Go.Proofs.Ytplcjkgbjapbmaa.U
set_option maxHeartbeats 1000000
set_option maxRecDepth 100000
set_option linter.unusedVariables false
set_option linter.unusedSimpArgs false
/-! Rows of saves: elements that lead to a row of their own each. -/
structure Save where
  at_ : Int
  aggs : List Agg
  mark : Int
  late : Int
  over : Int
instance : Inhabited Save := ⟨⟨0, [], 0, 0, 0⟩⟩
def kSave (e : Nat) : Kd Save := Kd.iso (Kd.pair (Kd.int .i64) (Kd.pair (Kd.slice e kAgg) (Kd.pair (Kd.int .i64) (Kd.pair (Kd.int .i64) (Kd.int .i64))))) (fun s => (s.at_, s.aggs, s.mark, s.late, s.over))
theorem kSave_K {e : Nat} {w : World} {x : Save} {cs : List Value} : (kSave e).K w x cs ↔ ∃ A c, cs = [.int .i64 x.at_, .slice A x.aggs.length c, .int .i64 x.mark, .int .i64 x.late, .int .i64 x.over] ∧ x.aggs.length ≤ c ∧ kAgg.C w A x.aggs.length x.aggs := by
  constructor
  · rintro ⟨c0, c1, rfl, h0, c2, c3, rfl, ⟨A, c, h1, h2, h3⟩, c4, c5, rfl, h4, c6, c7, rfl, h5, h6⟩
    rw [show c0 = _ from h0, h1, show c4 = _ from h4, show c6 = _ from h5, show c7 = _ from h6]
    exact ⟨A, c, rfl, h2, h3⟩
  · rintro ⟨A, c, rfl, h2, h3⟩
    exact ⟨_, _, rfl, rfl, _, _, rfl, ⟨A, c, rfl, h2, h3⟩, _, _, rfl, rfl, _, _, rfl, rfl, rfl⟩
theorem kSave_M {e : Nat} {w : World} {B : Nat} {ok : Nat → Prop} {x : Save} {cs : List Value} : (kSave e).M w B ok x cs ↔ ∃ v, cs = [.int .i64 x.at_, v, .int .i64 x.mark, .int .i64 x.late, .int .i64 x.over] ∧ kAgg.R e w B ok v x.aggs := by
  constructor
  · rintro ⟨c0, c1, rfl, h0, c2, c3, rfl, ⟨v, h1, h2⟩, c4, c5, rfl, h4, c6, c7, rfl, h5, h6⟩
    rw [show c0 = _ from h0, h1, show c4 = _ from h4, show c6 = _ from h5, show c7 = _ from h6]
    exact ⟨v, rfl, h2⟩
  · rintro ⟨v, rfl, h2⟩
    exact ⟨_, _, rfl, rfl, _, _, rfl, ⟨v, rfl, h2⟩, _, _, rfl, rfl, _, _, rfl, rfl, rfl⟩
theorem kSave_sz (e : Nat) : (kSave e).sz = 5 := rfl
/-- The cells of a save: the inner row's header as it is. -/
structure SaveC where
  at_ : Int
  A : Option Addr
  n : Nat
  c : Nat
  mark : Int
  late : Int
  over : Int
instance : Inhabited SaveC := ⟨⟨0, none, 0, 0, 0, 0, 0⟩⟩
def SaveC.v (y : SaveC) : Value := .slice y.A y.n y.c
def SaveC.enc (y : SaveC) : List Value := [.int .i64 y.at_, .slice y.A y.n y.c, .int .i64 y.mark, .int .i64 y.late, .int .i64 y.over]
def kSaveC : Kd SaveC := flat 5 SaveC.enc (fun _ => rfl) (fun x u hu => by simp only [SaveC.enc, List.mem_cons, List.not_mem_nil, or_false] at hu; rcases hu with rfl | rfl | rfl | rfl | rfl <;> rfl)
theorem kSaveC_flat : Flat kSaveC SaveC.enc := flat_flat
/-- One element: its cells, and its row in memory. -/
def Inn1 (e : Nat) (w : World) (ok : Nat → Prop) (y : SaveC) (x : Save) : Prop := y.at_ = x.at_ ∧ y.mark = x.mark ∧ y.late = x.late ∧ y.over = x.over ∧ kAgg.R e w 0 ok y.v x.aggs
def Inn (e : Nat) (w : World) (own : Nat → Prop) (v : Value) (f : Nat → Nat) (ys : List SaveC) (xs : List Save) : Prop :=
  ys.length = xs.length ∧ ∀ j y x, ys[j]? = some y → xs[j]? = some x → Inn1 e w (fun k => (own k ∧ some k ≠ v.ownBlock) ∧ f k = j) y x
theorem exists_list {α β : Type} : ∀ (xs : List α) (P : Nat → α → β → Prop), (∀ j x, xs[j]? = some x → ∃ y, P j x y) → ∃ ys : List β, ys.length = xs.length ∧ ∀ j x y, xs[j]? = some x → ys[j]? = some y → P j x y
  | [], _, _ => ⟨[], rfl, fun j x y h => by simp at h⟩
  | x :: xs, P, h => by
    obtain ⟨y, hy⟩ := h 0 x rfl
    obtain ⟨ys, hl, hys⟩ := exists_list xs (fun j => P (j + 1)) (fun j x hx => h (j + 1) x (by simpa using hx))
    refine ⟨y :: ys, by simp [hl], fun j a b ha hb => ?_⟩
    cases j with
    | zero => simp at ha hb; subst ha hb; exact hy
    | succ j => exact hys j a b (by simpa using ha) (by simpa using hb)
section
variable {e t B : Nat} {w w1 : World} {own : Nat → Prop} {v : Value} {xs : List Save} {ys : List SaveC} {f : Nat → Nat}
theorem slice_of_R {α : Type} {d : Kd α} {ok : Nat → Prop} {xs : List α} (h : d.R e w B ok v xs) : ∃ A n c, v = .slice A n c := by
  obtain ⟨A, c, h⟩ := Kd.R_slice h
  exact ⟨A, _, c, h⟩
theorem save_open (h : (kSave e).S t w B own v xs) : ∃ f ys, kSaveC.R t w 0 own v ys ∧ Inn e w own v f ys xs := by
  obtain ⟨f, hR⟩ := h
  replace hR := Kd.R_lower hR (Nat.zero_le B)
  obtain ⟨h0, inner, ho, hr⟩ := hR
  rw [List.length_zipIdx] at ho
  have hlen : inner.length = xs.length * 5 := by have := hr.1; rw [List.length_zipIdx] at this; exact this
  obtain ⟨ys, hys, hP⟩ := exists_list xs (fun j x (y : SaveC) => (inner.drop (j * 5)).take 5 = y.enc ∧ Inn1 e w (fun k => (own k ∧ some k ≠ v.ownBlock) ∧ f k = j) y x) (fun j x hx => by
    have h1 := hr.2 j (x, j) (Kd.zip_at hx)
    obtain ⟨u, h2, h3⟩ := kSave_M.1 h1
    obtain ⟨A, n, c, rfl⟩ := slice_of_R h3
    exact ⟨⟨x.at_, A, n, c, x.mark, x.late, x.over⟩, h2, rfl, rfl, rfl, rfl, h3⟩)
  refine ⟨f, ys, ⟨h0, inner, by rw [hys]; exact ho, by rw [hys]; exact hlen, fun j y hj => ?_⟩, hys, fun j y x hy hx => (hP j x y hx hy).2⟩
  obtain ⟨x, hx⟩ : ∃ x, xs[j]? = some x := elt (by rw [← hys]; exact (List.getElem?_eq_some_iff.1 hj).1)
  exact (hP j x y hx hj).1
theorem save_close (h : kSaveC.R t w 0 own v ys) (hi : Inn e w own v f ys xs) : (kSave e).S t w 0 own v xs := by
  obtain ⟨h0, inner, ho, hr⟩ := h
  refine ⟨f, h0, inner, by rw [List.length_zipIdx, ← hi.1]; exact ho, by rw [List.length_zipIdx, ← hi.1]; exact hr.1, fun j p hj => ?_⟩
  rw [List.getElem?_zipIdx, Nat.zero_add] at hj
  obtain ⟨x, hx, rfl⟩ := Option.map_eq_some_iff.1 hj
  obtain ⟨y, hy⟩ : ∃ y, ys[j]? = some y := elt (by rw [hi.1]; exact (List.getElem?_eq_some_iff.1 hx).1)
  obtain ⟨e1, e2, e3, e4, h1⟩ := hi.2 j y x hy hx
  refine kSave_M.2 ⟨y.v, ?_, h1⟩
  have h2 : (inner.drop (j * 5)).take 5 = y.enc := hr.2 j y hy
  have h3 : (inner.drop (j * (Kd.tag f (kSave e)).sz)).take (Kd.tag f (kSave e)).sz = (inner.drop (j * 5)).take 5 := rfl
  rw [h3, h2, SaveC.enc, e1, e2, e3, e4]
  rfl
theorem Inn1.step {ok ok' : Nat → Prop} {y : SaveC} {x : Save} (h : Inn1 e w ok y x) (hm : ∀ k, ok k → k < w.heap.size → w1.heap[k]? = w.heap[k]?) (hk : ∀ k, ok k → k < w.heap.size → ok' k) : Inn1 e w1 ok' y x :=
  ⟨h.1, h.2.1, h.2.2.1, h.2.2.2.1, Kd.R_mono (Kd.R_move (Kd.R_bound h.2.2.2.2) (fun k hk => hm k hk.1 hk.2.2.1)) (fun k hk2 => hk k hk2.1 hk2.2.2.1)⟩
theorem row_own {α : Type} {d : Kd α} {ok : Nat → Prop} {xs : List α} (h : d.R t w B ok v xs) : ∀ k, v.ownBlock = some k → ok k ∧ k < w.heap.size := fun k hk => ⟨h.1 k hk, Kd.R_lt h k hk⟩
end
/-! Steps over rows of saves. -/
class TSave (P : Program) (t : Nat) (e : outParam Nat) : Prop where
  ok : True
def saveL (id : Nat) (x : Save) : List SV := [.c (.int .i64 x.at_), .i id, .c (.int .i64 x.mark), .c (.int .i64 x.late), .c (.int .i64 x.over)]
def saveU (x : Save) : List (Option Value) := [some (.int .i64 x.at_), none, some (.int .i64 x.mark), some (.int .i64 x.late), some (.int .i64 x.over)]
def saveSet (x : Save) : Nat → Int → Option Save
  | 0, i => some { x with at_ := i }
  | 2, i => some { x with mark := i }
  | 3, i => some { x with late := i }
  | 4, i => some { x with over := i }
  | _, _ => none
theorem conL5 {μ : Mu} {u0 u2 u3 u4 : Value} {id : Nat} : ∀ {vs : List Value}, conL μ [.c u0, .i id, .c u2, .c u3, .c u4] vs → ∃ v, μ id = some v ∧ vs = [u0, v, u2, u3, u4]
  | [a0, a1, a2, a3, a4], ⟨e0, ⟨h1, _⟩, e2, e3, e4, _⟩ => ⟨a1, h1, by rw [show a0 = u0 from e0, show a2 = u2 from e2, show a3 = u3 from e3, show a4 = u4 from e4]⟩
  | [], h => h.elim
  | [_], h => h.2.elim
  | [_, _], h => h.2.2.elim
  | [_, _, _], h => h.2.2.2.elim
  | [_, _, _, _], h => h.2.2.2.2.elim
  | _ :: _ :: _ :: _ :: _ :: _ :: _, h => h.2.2.2.2.2.elim
theorem run_bS {P : Program} {a : Act} {w : World} {t e len sz : Nat} {ps : List (Nat × Operand)} {z : Value} {o : Oper} {cells' : Array Value} {zs : List Value} (ho : o.op = .buildSlice t len ps.toArray) (ht : P.underlying t = some (.slice e)) (hinfo : (P.info? e).map (fun i => (i.zero, i.size)) = some (some z, sz)) (hsm : len * sz ≤ 16777216)
    (hzs : ((Array.range (len * sz)).map (fun i => (if len * sz = 0 then #[] else z.cells)[i % (if len * sz = 0 then #[] else z.cells).size]!)).toList = zs) (hfill : Instr.fill (fun i => some (i * sz, sz)) zs.toArray (List.map (fun q => (q.1, a.eval q.2)) ps) = some cells') (h0 : len * sz ≠ 0) :
    (execOp a.eval o).run P w = .ok (.value (.slice (some ⟨w.heap.size, 0, none⟩) len len)) (w.alloc (.cells cells' e)) := by
  obtain ⟨i, hi, hzz⟩ := Option.map_eq_some_iff.1 hinfo
  simp only [Prod.mk.injEq] at hzz
  obtain ⟨hz0, hsz⟩ := hzz
  have hgt : ¬ (16777216 < len * sz) := by omega
  have hzs' : (Array.range (len * sz)).map (fun i => (if len * sz = 0 then #[] else z.cells)[i % (if len * sz = 0 then #[] else z.cells).size]!) = zs.toArray := by rw [← hzs]
  unfold execOp
  simp only [ho]
  simp only [h0, if_false] at hzs'
  simp only [Instr.buildSlice, Sem.run_bind, run_underlying ht, Result.andThen_ok, sizeOf, typeInfo, run_program, hi, Sem.run_pure, hsz]
  simp [zeroValue, typeInfo, hi, hz0, h0, hgt]
  simp only [hzs', hfill]
  simp [newRow]
section
variable {P : Program} {X : Cx} {ops : Array Oper} {o : Oper} {l : List Oper} {σ : St} {K : List (Pre × Eff) → St → Prop} {lg : List (Nat × AV)} {μ : Mu} {ω : Om} {a : Act} {w : World}
theorem ro_save (hS : ∀ k, ¬ X.S k) (hs : Sat X σ μ ω a w) {id e ix : Nat} {xs : List Save} (hH : σ.H id = some (.ro (kSave e) xs)) {y : Save} (hy : xs[ix]? = some y) :
    ∃ ad c A' c', μ id = some (.slice (some ad) xs.length c) ∧ (∀ (j : Nat) u, ([.int .i64 y.at_, .slice A' y.aggs.length c', .int .i64 y.mark, .int .i64 y.late, .int .i64 y.over] : List Value)[j]? = some u → w.cell? (ad.add (ix * 5 + j)) = some u) ∧ y.aggs.length ≤ c' ∧ ∀ W, Kp X.w0 W X.S → kAgg.C W A' y.aggs.length y.aggs := by
  obtain ⟨v, hv, hno, A, c, rfl, hl, hC⟩ := hs.obj id _ hH
  have hlt := (List.getElem?_eq_some_iff.1 hy).1
  obtain ⟨hC1, hC2, hC3⟩ := hC X.w0 (Kp.refl _ _)
  obtain ⟨ad, rfl, hcells⟩ := hC3 (by omega)
  obtain ⟨cs, hlen, hK, hcell⟩ := hcells ix y hy
  obtain ⟨A', c', rfl, h2, h3⟩ := kSave_K.1 hK
  refine ⟨ad, c, A', c', hv, fun j u hu => ?_, h2, fun W hW => Kd.C_below h3 (hW.to_below hS)⟩
  have h4 : X.w0.cell? (ad.add (ix * 5 + j)) = some u := hcell j u hu
  exact (World.cell?_of_block (hs.kept.kept.2 _ (World.block_lt_of_cell? _ _ h4) (hS _))).trans h4
theorem Rdb.saveU {e ix off : Nat} {b : AObj} {xs : List Save} {y : Save} {u : Value} {id : Nat} (hr : Rdb (kSave e) xs b) (hs : Sat X σ μ ω a w) (hH : σ.H id = some b) (hy : xs[ix]? = some y) (hu : (saveU y)[off]? = some (some u)) : ∃ ad c, μ id = some (.slice (some ad) xs.length c) ∧ w.cell? (ad.add (ix * 5 + off)) = some u := by
  obtain ⟨A, c, hm, hl, hC⟩ := hr.get hs hH
  have hlt := (List.getElem?_eq_some_iff.1 hy).1
  obtain ⟨ad, rfl, hcells⟩ := hC.2.2 (by omega)
  obtain ⟨cs, hlen, hK, hcell⟩ := hcells ix y hy
  obtain ⟨A', c', rfl, h2, h3⟩ := kSave_K.1 hK
  refine ⟨ad, c, hm, hcell off u ?_⟩
  match off, hu with
  | 0, hu => simpa [C.saveU] using hu
  | 1, hu => simp [C.saveU] at hu
  | 2, hu => simpa [C.saveU] using hu
  | 3, hu => simpa [C.saveU] using hu
  | 4, hu => simpa [C.saveU] using hu
  | n + 5, hu => simp [C.saveU] at hu
section
variable (hgo : GOn ops σ o lg) (hd : dstOk o.dst σ.n = true)
include hgo hd
/-- A save (or its shard) of a row that is read. -/
theorem x_loadD {t n : Nat} {pl : List (Nat × Nat)} {zs : List Value} [ht : TStruct P t n pl zs] {x : Operand} {id ix off nid e : Nat} {xs : List Save} {y : Save} (hS : ∀ k, ¬ X.S k) (ho : o.op = .load t x) (hx : opnd σ.F x = some (.o (.e id 5 ix off))) (hH : σ.H id = some (.ro (kSave e) xs)) (hy : xs[ix]? = some y) (hn : Nat.ble (off + n) 5 = true) (hid0 : o.dst = some nid) (hid : σ.D nid = false)
    (h : LX P X ops l (σ.app o.dst ⟨.a (((saveL nid y).drop off).take n), [(nid, some (.ro kAgg y.aggs))], [(nid, true)]⟩) (fun C => K ((⟨lg ++ look x (.o (.e id 5 ix off)), [(id, .ro (kSave e) xs)]⟩, ⟨.a (((saveL nid y).drop off).take n), [(nid, some (.ro kAgg y.aggs))], [(nid, true)]⟩) :: C))) : LX P X ops (o :: l) σ K :=
  Lx.run (h := h) (e := ⟨.a (((saveL nid y).drop off).take n), [(nid, some (.ro kAgg y.aggs))], [(nid, true)]⟩) hgo.1 hgo.2 (look_fits hx) (one_mem hH) (one_mem hid) (fun σ1 hn1 h2 h4 h3 μ ω a w hs1 K Q hK => by
    have hH1 : σ1.H id = some (.ro (kSave e) xs) := h4 _ List.mem_cons_self
    have hid1 : σ1.D nid = false := h3 _ List.mem_cons_self
    have hn' := Nat.le_of_ble_eq_true hn
    obtain ⟨ad, c, A', c', hm, hcell, hlc, hC⟩ := ro_save hS hs1 hH1 hy
    obtain ⟨A1, n1, c1, hm', hv'⟩ := hs1.ev (opnd_of hx h2)
    rw [hm] at hm'
    cases hm'
    generalize hvs : ([.int .i64 y.at_, .slice A' y.aggs.length c', .int .i64 y.mark, .int .i64 y.late, .int .i64 y.over] : List Value) = vs at hcell
    have hvl : vs.length = 5 := by rw [← hvs]; rfl
    have hlen : ((vs.drop off).take n).length = n := by rw [List.length_take, List.length_drop, hvl]; omega
    have hrun : (execOp a.eval o).run P w = .ok (.value (.agg ((vs.drop off).take n).toArray)) w := by
      unfold execOp
      simp only [ho, hv']
      have := load_agg (P := P) (w := w) (t := t) (p := ⟨(ad.add (ix * 5)).block, (ad.add (ix * 5)).off + off, none⟩) (vs := (vs.drop off).take n) (by rw [hlen]; exact ht.a) (fun j v hj => by
        rw [add_plain]
        have hjn : j < n := by have := (List.getElem?_eq_some_iff.1 hj).1; omega
        rw [List.getElem?_take_of_lt hjn, List.getElem?_drop] at hj
        have := cell_off (hcell (off + j) v hj)
        rwa [Nat.add_assoc])
      simp [this]
    unfold Oper.wp
    rw [hrun]
    have hadd := hs1.add (id := nid) (o := .ro kAgg y.aggs) (v := .slice A' y.aggs.length c') (own := No_) hid1 ⟨fun _ h => h, A', c', rfl, hlc, hC⟩ (fun k hk => hk.elim) (fun _ _ _ _ _ h => h)
    refine hK _ _ _ _ (hadd.put (av := .a (((saveL nid y).drop off).take n)) (dstOk_spec (hn1 ▸ hd)) ⟨(vs.drop off).take n, rfl, conL_take (conL_drop ?_ off) n⟩)
    rw [← hvs]
    exact ⟨rfl, ⟨upd_same _ _ _, rfl⟩, rfl, rfl, rfl, trivial⟩)
/-- The row of a save of a row that is read. -/
theorem x_loadD1 {t : Nat} [ht : TPlain P t] {x : Operand} {id ix nid e : Nat} {xs : List Save} {y : Save} (hS : ∀ k, ¬ X.S k) (ho : o.op = .load t x) (hx : opnd σ.F x = some (.o (.e id 5 ix 1))) (hH : σ.H id = some (.ro (kSave e) xs)) (hy : xs[ix]? = some y) (hid0 : o.dst = some nid) (hid : σ.D nid = false)
    (h : LX P X ops l (σ.app o.dst ⟨.o (.i nid), [(nid, some (.ro kAgg y.aggs))], [(nid, true)]⟩) (fun C => K ((⟨lg ++ look x (.o (.e id 5 ix 1)), [(id, .ro (kSave e) xs)]⟩, ⟨.o (.i nid), [(nid, some (.ro kAgg y.aggs))], [(nid, true)]⟩) :: C))) : LX P X ops (o :: l) σ K :=
  Lx.run (h := h) (e := ⟨.o (.i nid), [(nid, some (.ro kAgg y.aggs))], [(nid, true)]⟩) hgo.1 hgo.2 (look_fits hx) (one_mem hH) (one_mem hid) (fun σ1 hn1 h2 h4 h3 μ ω a w hs1 K Q hK => by
    have hH1 : σ1.H id = some (.ro (kSave e) xs) := h4 _ List.mem_cons_self
    have hid1 : σ1.D nid = false := h3 _ List.mem_cons_self
    obtain ⟨ad, c, A', c', hm, hcell, hlc, hC⟩ := ro_save hS hs1 hH1 hy
    obtain ⟨A1, n1, c1, hm', hv'⟩ := hs1.ev (opnd_of hx h2)
    rw [hm] at hm'
    cases hm'
    have hrun : (execOp a.eval o).run P w = .ok (.value (.slice A' y.aggs.length c')) w := by
      unfold execOp
      simp only [ho, hv']
      simp [load_one ht.h (cell_off (hcell 1 _ rfl))]
    unfold Oper.wp
    rw [hrun]
    have hadd := hs1.add (id := nid) (o := .ro kAgg y.aggs) (v := .slice A' y.aggs.length c') (own := No_) hid1 ⟨fun _ h => h, A', c', rfl, hlc, hC⟩ (fun k hk => hk.elim) (fun _ _ _ _ _ h => h)
    exact hK _ _ _ _ (hadd.put (av := .o (.i nid)) (dstOk_spec (hn1 ▸ hd)) ⟨upd_same _ _ _, rfl⟩))
/-- A number of a save. -/
theorem x_loadDf {t : Nat} [ht : TPlain P t] {x : Operand} {id ix off e : Nat} {b : AObj} {xs : List Save} {y : Save} {u : Value} (ho : o.op = .load t x) (hx : opnd σ.F x = some (.o (.e id 5 ix off))) (hH : σ.H id = some b) (hr : Rdb (kSave e) xs b) (hy : xs[ix]? = some y) (hu : (saveU y)[off]? = some (some u))
    (h : LX P X ops l (σ.app o.dst ⟨.o (.c u), [], []⟩) (fun C => K ((⟨lg ++ look x (.o (.e id 5 ix off)), [(id, b)]⟩, ⟨.o (.c u), [], []⟩) :: C))) : LX P X ops (o :: l) σ K :=
  Lx.val (h := h) hgo.1 hgo.2 hd (look_fits hx) (one_mem hH) (fun σ1 h1 h2 μ ω a w hs1 => by
    obtain ⟨ad, c, hm, hcell⟩ := hr.saveU hs1 (h2 _ List.mem_cons_self) hy hu
    obtain ⟨A', n', c', hm', hv'⟩ := hs1.ev (opnd_of hx h1)
    rw [hm] at hm'
    cases hm'
    refine ⟨u, ?_, rfl⟩
    unfold execOp
    simp only [ho, hv']
    simp [load_one ht.h (cell_off hcell)])
/-- []Save with one save. -/
theorem x_buildSD {t t' n by_ : Nat} {z : Value} [hs : TSlice P t t'] [he : TElem P t' n by_ z] {ps : List (Nat × Operand)} {avs : List (Nat × AV)} {id nid e : Nat} {p q r s : Int} {ag : List Agg} (hn : n = 5) (ho : o.op = .buildSlice t 1 ps.toArray) (hx : opndL σ.F ps = some avs)
    (hfl : fillA (fun i => some (i * 5, 5)) ((zrep 1 z.cells.toList).map SV.c) avs = some [.c (.int .i64 p), .i id, .c (.int .i64 q), .c (.int .i64 r), .c (.int .i64 s)]) (hH : σ.H id = some (.row kAgg e ag)) (hid0 : o.dst = some nid) (hid : σ.D nid = false)
    (h : LX P X ops l (σ.app o.dst ⟨.o (.i nid), [(id, none), (nid, some (.row (kSave e) t' [⟨p, ag, q, r, s⟩]))], [(nid, true)]⟩) (fun C => K ((⟨lg ++ lookL ps avs, [(id, .row kAgg e ag)]⟩, ⟨.o (.i nid), [(id, none), (nid, some (.row (kSave e) t' [⟨p, ag, q, r, s⟩]))], [(nid, true)]⟩) :: C))) : LX P X ops (o :: l) σ K :=
  Lx.run (h := h) (e := ⟨.o (.i nid), [(id, none), (nid, some (.row (kSave e) t' [⟨p, ag, q, r, s⟩]))], [(nid, true)]⟩) hgo.1 hgo.2 (lookL_fits hx) (one_mem hH) (one_mem hid) (fun σ1 hn1 h1 h4 h3 μ ω a w hs1 K Q hK => by
    subst hn
    have hH1 : σ1.H id = some (.row kAgg e ag) := h4 _ List.mem_cons_self
    have hid1 : σ1.D nid = false := h3 _ List.mem_cons_self
    have hzl : (zrep 1 z.cells.toList).all Value.oneCell' = true := zrep_all he.o 1
    obtain ⟨cells', hfill, hcon, _, _⟩ := fill_con (cells := (zrep 1 z.cells.toList).toArray) (hs1.evL (opndL_of hx h1)) (by simpa using conL_consts μ (zrep 1 z.cells.toList)) (fun u hu => List.all_eq_true.1 hzl u (by simpa using hu)) hfl
    obtain ⟨v, hv, hcells⟩ := conL5 hcon
    have hcells' : cells' = [.int .i64 p, v, .int .i64 q, .int .i64 r, .int .i64 s].toArray := by rw [← hcells]
    have hi : (P.info? t').map (fun i => (i.zero, i.size)) = some (some z, 5) := by
      obtain ⟨i, hi, hz⟩ := Option.map_eq_some_iff.1 he.h
      simp only [Prod.mk.injEq] at hz
      simp [hi, hz.1, hz.2.1]
    have hrun := run_bS (P := P) (a := a) (w := w) ho hs.h hi (by decide) (zrep_eq he.c he.n) hfill (by decide)
    unfold Oper.wp
    rw [hrun]
    obtain ⟨v', hv', B, hS⟩ := hs1.obj id _ hH1
    rw [hv] at hv'
    cases hv'
    have hR := Kd.R_lower (Kd.S_R hS) (Nat.zero_le B)
    obtain ⟨A, m, c, rfl⟩ := slice_of_R hR
    have hb : (w.alloc (.cells cells' t')).heap[w.heap.size]? = some (.cells (([(⟨p, A, m, c, q, r, s⟩ : SaveC)].flatMap SaveC.enc).toArray) t' (0, 0)) := by
      rw [hcells']
      exact blk_new _ _
    have hrow := row_of_cells (d := kSaveC) (e := t') (base := 0) (ok := fun k => k = w.heap.size ∨ ω id k) kSaveC_flat hb (Nat.zero_le _) (.inl rfl) (by simp)
    have hlt : ∀ k, ω id k → k < w.heap.size := fun k hk => (hs1.own id _ hH1 k hk).2
    have hinn : Inn e (w.alloc (.cells cells' t')) (fun k => k = w.heap.size ∨ ω id k) (.slice (some ⟨w.heap.size, 0, none⟩) 1 1) (fun _ => 0) [⟨p, A, m, c, q, r, s⟩] [⟨p, ag, q, r, s⟩] := by
      refine ⟨rfl, fun j y x hy hx => ?_⟩
      match j, hy, hx with
      | 0, hy, hx =>
        simp at hy hx
        subst hy hx
        refine Inn1.step (w := w) (ok := ω id) ⟨rfl, rfl, rfl, rfl, hR⟩ (fun k hk hk2 => (below_alloc (Below.refl _ _) _).block k hk2) (fun k hk _ => ⟨⟨.inr hk, fun e => ?_⟩, rfl⟩)
        have := hlt k hk
        simp [Value.ownBlock] at e
        omega
      | j + 1, hy, _ => simp at hy
    refine hK _ _ _ _ ((hs1.turn (id := id) (id1 := nid) (o1 := .row (kSave e) t' [⟨p, ag, q, r, s⟩]) (v := .slice (some ⟨w.heap.size, 0, none⟩) 1 1) (own := fun k => k = w.heap.size ∨ ω id k) hH1 hid1 ((Kp.alloc w _).mono (fun _ h => h.elim)) ⟨0, save_close hrow hinn⟩ (fun k hk => ?_)).put (av := .o (.i nid)) (dstOk_spec (hn1 ▸ hd)) ⟨upd_same _ _ _, rfl⟩)
    rcases hk with rfl | hk
    · exact .inr ⟨Nat.le_refl _, by simp⟩
    · exact .inl hk)
end
/-- Two objects that are used up, and one made of them. -/
theorem Sat.turn2 (h : Sat X σ μ ω a w) {id id2 id1 : Nat} {o o2 o1 : AObj} {v : Value} {own : Nat → Prop} {w1 : World} (hH : σ.H id = some o) (hH2 : σ.H id2 = some o2) (hid : σ.D id1 = false) (hw : Kp w w1 (ω id)) (ho : o1.holds X w1 (upd μ id1 (some v)) v own) (hown : ∀ k, own k → ω id k ∨ ω id2 k ∨ (w.heap.size ≤ k ∧ k < w1.heap.size)) :
    Sat X { σ with H := upd (upd (upd σ.H id none) id2 none) id1 (some o1), D := upd σ.D id1 true } (upd μ id1 (some v)) (upd ω id1 own) a w1 := by
  have h0 := h.made id1 hid
  have hT : ∀ k, (ω id k ∨ ω id2 k) → X.S k ∨ X.w0.heap.size ≤ k := fun k hk => hk.elim (fun hk => (h.own id o hH k hk).1) (fun hk => (h.own id2 o2 hH2 k hk).1)
  refine h.gen (T := fun k => ω id k ∨ ω id2 k) rfl rfl (hw.mono (fun _ h => .inl h)) hT (fun j u hu => ?_) (fun j hj => ?_) (fun j => j = id1) (fun j oj hj => ?_) (fun i j hi hj hne => absurd (hi.trans hj.symm) hne) (fun q hq => upd_ne _ (fun e => by have := (h.anc q hq).1; rw [e, h0] at this; cases this) _)
  · rw [upd_ne _ (fun e => by rw [e, h0] at hu; cases hu)]; exact hu
  · by_cases e : j = id1
    · subst e; simp [upd_same] at hj
    · rw [upd_ne _ e]; exact h.made j (by simpa [upd_ne _ e] using hj)
  · by_cases e : j = id1
    · subst e
      simp only [upd_same] at hj
      cases hj
      refine .inr ⟨rfl, ⟨v, upd_same _ _ _, by rw [upd_same]; exact ho⟩, fun k hk => ?_⟩
      rw [upd_same] at hk
      rcases hown k hk with h1 | h1 | h1
      · exact ⟨.inl (.inl h1), Nat.lt_of_lt_of_le (h.own id o hH k h1).2 hw.size⟩
      · exact ⟨.inl (.inr h1), Nat.lt_of_lt_of_le (h.own id2 o2 hH2 k h1).2 hw.size⟩
      · exact ⟨.inr h1.1, h1.2⟩
    · simp only [upd_ne _ e] at hj
      by_cases e3 : j = id2
      · subst e3; simp [upd_same] at hj
      rw [upd_ne _ e3] at hj
      by_cases e2 : j = id
      · subst e2; simp [upd_same] at hj
      rw [upd_ne _ e2] at hj
      exact .inl ⟨e, hj, upd_ne _ e _, fun k hk hk2 => hk2.elim (fun hk2 => h.sep j id oj o hj hH e2 k hk hk2) (fun hk2 => h.sep j id2 oj o2 hj hH2 e3 k hk hk2)⟩
open Classical in
theorem inn_append {e t : Nat} {w w1 : World} {o1 o2 : Nat → Prop} {v v2 v1 : Value} {f1 f2 : Nat → Nat} {cs ds : List SaveC} {xs ys : List Save} (h1 : Inn e w o1 v f1 cs xs) (h2 : Inn e w o2 v2 f2 ds ys) (hsep : ∀ k, o1 k → ¬ o2 k) (hv : ∀ k, v.ownBlock = some k → o1 k) (hg : w.grownBy w1 v.ownBlock) (hat : v1.ownBlock = v.ownBlock ∨ ∃ b, v1.ownBlock = some b ∧ w.heap.size ≤ b) :
    Inn e w1 (fun k => (o1 k ∨ o2 k ∨ w.heap.size ≤ k) ∧ k < w1.heap.size) v1 (fun k => if o2 k then xs.length + f2 k else f1 k) (cs ++ ds) (xs ++ ys) := by
  have hne : ∀ k, some k ≠ v.ownBlock → k < w.heap.size → some k ≠ v1.ownBlock := fun k hk hlt e => by
    rcases hat with h | ⟨b, h, hb⟩
    · exact hk (e.trans h)
    · rw [h] at e
      injection e with e
      omega
  refine ⟨by simp [h1.1, h2.1], fun j y x hy hx => ?_⟩
  rcases Nat.lt_or_ge j cs.length with hj | hj
  · rw [List.getElem?_append_left hj] at hy
    rw [List.getElem?_append_left (by rw [← h1.1]; exact hj)] at hx
    refine (h1.2 j y x hy hx).step (fun k hk hlt => hg.block k hlt hk.1.2) (fun k hk hlt => ⟨⟨⟨.inl hk.1.1, Nat.lt_of_lt_of_le hlt hg.size⟩, hne k hk.1.2 hlt⟩, ?_⟩)
    dsimp only
    rw [if_neg (hsep k hk.1.1)]
    exact hk.2
  · rw [List.getElem?_append_right hj] at hy
    rw [List.getElem?_append_right (by rw [← h1.1]; exact hj), ← h1.1] at hx
    have hko : ∀ k, o2 k → some k ≠ v.ownBlock := fun k hk e => hsep k (hv k e.symm) hk
    refine (h2.2 _ y x hy hx).step (fun k hk hlt => hg.block k hlt (hko k hk.1.1)) (fun k hk hlt => ⟨⟨⟨.inr (.inl hk.1.1), Nat.lt_of_lt_of_le hlt hg.size⟩, hne k (hko k hk.1.1) hlt⟩, ?_⟩)
    dsimp only
    rw [if_pos hk.1.1, hk.2, ← h1.1]
    omega
section
variable (hgo : GOn ops σ o lg) (hd : dstOk o.dst σ.n = true)
include hgo hd
/-- append(s, x...) of saves. -/
theorem x_appendD {s x : Operand} {id id2 nid t t' t2 n by_ e : Nat} {z : Value} [hs : TSlice P t t'] [he : TElem P t' n by_ z] {xs ys : List Save} (hn : n = 5) (ho : o.op = .call { callee := .builtin .append, args := #[s, x], argTypes := #[t, t] }) (hsx : opnd σ.F s = some (.o (.i id))) (hx : opnd σ.F x = some (.o (.i id2))) (hne : Nat.beq id id2 = false) (hH : σ.H id = some (.row (kSave e) t' xs)) (hH2 : σ.H id2 = some (.row (kSave e) t2 ys))
    (hl : (xs.length + ys.length) * by_ ≤ 140737488355328) (hid0 : o.dst = some nid) (hid : σ.D nid = false)
    (h : LX P X ops l (σ.app o.dst ⟨.o (.i nid), [(id, none), (id2, none), (nid, some (.row (kSave e) t' (xs ++ ys)))], [(nid, true)]⟩) (fun C => K ((⟨lg ++ (look s (.o (.i id)) ++ look x (.o (.i id2))), [(id, .row (kSave e) t' xs), (id2, .row (kSave e) t2 ys)]⟩, ⟨.o (.i nid), [(id, none), (id2, none), (nid, some (.row (kSave e) t' (xs ++ ys)))], [(nid, true)]⟩) :: C))) : LX P X ops (o :: l) σ K :=
  Lx.run (h := h) (e := ⟨.o (.i nid), [(id, none), (id2, none), (nid, some (.row (kSave e) t' (xs ++ ys)))], [(nid, true)]⟩) hgo.1 hgo.2 (mem_app (look_fits hsx) (look_fits hx)) (two_mem hH hH2) (one_mem hid) (fun σ1 hn1 h2 h4 h3 μ ω a w hs1 K Q hK => by
    subst hn
    have hidne : id ≠ id2 := fun e => by subst e; simp at hne
    have hH1 : σ1.H id = some (.row (kSave e) t' xs) := h4 _ List.mem_cons_self
    have hH3 : σ1.H id2 = some (.row (kSave e) t2 ys) := h4 (id2, .row (kSave e) t2 ys) (by simp)
    have hid1 : σ1.D nid = false := h3 _ List.mem_cons_self
    have es := hs1.ev (opnd_of hsx (app_l h2))
    have ex := hs1.ev (opnd_of hx (app_r h2))
    obtain ⟨v, hv, B, hS⟩ := hs1.obj id _ hH1
    obtain ⟨v2, hv2, B2, hS2⟩ := hs1.obj id2 _ hH3
    obtain ⟨f1, cs, hR, hI⟩ := save_open hS
    obtain ⟨f2, ds, hR2, hI2⟩ := save_open hS2
    obtain ⟨A2, c2, rfl, hl2, hC2⟩ := Kd.R_reads hR2
    have ev : a.eval s = v := by have := es.1; rw [hv] at this; injection this with this; exact this.symm
    have ev2 : a.eval x = .slice A2 ds.length c2 := by have := ex.1; rw [hv2] at this; injection this with this; exact this.symm
    have hR' : kSaveC.R t' w 0 (fun k => ω id k ∨ w.heap.size ≤ k) v cs := Kd.R_mono hR (fun k hk => .inl hk)
    have hrow : ∀ k, v.ownBlock = some k → ω id k := hR.1
    have hgo := Kd.R_append_rows_step (P := P) (ops := #[]) (o := { o with guard := none }) (a := a) (Q := Q) (Kc := K) kSaveC (Rr := kSaveC.K w) (w0 := w) (W := w) 0 (by simp [Region.wanted]) s x t t' z by_ ho hs.h he.h he.c he.n he.b v cs ds A2 ds.length c2 (fun k => ω id k ∨ w.heap.size ≤ k) (fun _ => False) ev ev2 hR' hC2 (fun y cs hy => (kSaveC_flat.2 _ _ _ _ _).2 ((kSaveC_flat.1 _ _ _).1 hy)) (fun _ hk => hk.elim) (fun k hk => .inr hk) (Below.refl _ _) (Nat.zero_le _) (by rw [hI.1, hI2.1]; exact hl) (fun v1 w1 hR1 hb1 hg1 hat1 => by
      obtain ⟨A1, c1, e1⟩ := Kd.R_slice hR1
      have hinn := inn_append (t := t) hI hI2 (fun k hk hk2 => hs1.sep id id2 _ _ hH1 hH3 hidne k hk hk2) hrow hg1 hat1
      have hR1' : kSaveC.R t' w1 0 (fun k => (ω id k ∨ ω id2 k ∨ w.heap.size ≤ k) ∧ k < w1.heap.size) v1 (cs ++ ds) := Kd.R_mono (Kd.R_bound hR1) (fun k hk => ⟨hk.1.elim .inl (fun h => .inr (.inr h)), hk.2.2.1⟩)
      refine hK _ _ _ _ ((hs1.turn2 (id := id) (id2 := id2) (id1 := nid) (o1 := .row (kSave e) t' (xs ++ ys)) (v := v1) (own := fun k => (ω id k ∨ ω id2 k ∨ w.heap.size ≤ k) ∧ k < w1.heap.size) hH1 hH3 hid1 ((Kp.of_grown hg1).mono hrow) ⟨0, save_close hR1' hinn⟩ (fun k hk => hk.1.imp (fun h => h) (fun h => h.imp (fun h => h) (fun h => ⟨h, hk.2⟩)))).put (av := .o (.i nid)) (dstOk_spec (hn1 ▸ hd)) ⟨upd_same _ _ _, by rw [e1]; rfl⟩))
    rw [if_pos (by simp [Region.wanted])] at hgo
    exact hgo)
/-- make([]Save, n). -/
theorem x_makeSD {t t' n by_ e : Nat} {z : Value} [hs : TSlice P t t'] [he : TElem P t' n by_ z] [_hv : TSave P t' e] {x y : Operand} {m nid : Nat} (hn : n = 5) (ho : o.op = .makeSlice t x y) (hx : opnd σ.F x = some (.o (.c (.int .i64 (m : Int))))) (hy : opnd σ.F y = some (.o (.c (.int .i64 (m : Int))))) (hz0 : z.cells.toList = SaveC.enc ⟨0, none, 0, 0, 0, 0, 0⟩) (hl : m * by_ ≤ 140737488355328) (hid0 : o.dst = some nid) (hid : σ.D nid = false)
    (h : LX P X ops l (σ.app o.dst ⟨.o (.i nid), [(nid, some (.row (kSave e) t' (List.replicate m ⟨0, [], 0, 0, 0⟩)))], [(nid, true)]⟩) (fun C => K ((⟨lg ++ (look x (.o (.c (.int .i64 (m : Int)))) ++ look y (.o (.c (.int .i64 (m : Int))))), []⟩, ⟨.o (.i nid), [(nid, some (.row (kSave e) t' (List.replicate m ⟨0, [], 0, 0, 0⟩)))], [(nid, true)]⟩) :: C))) : LX P X ops (o :: l) σ K :=
  Lx.run (h := h) (ph := []) (e := ⟨.o (.i nid), [(nid, some (.row (kSave e) t' (List.replicate m ⟨0, [], 0, 0, 0⟩)))], [(nid, true)]⟩) hgo.1 hgo.2 (mem_app (look_fits hx) (look_fits hy)) no_mem (one_mem hid) (fun σ1 hn1 h1 _ h3 μ ω a w hs1 K Q hK => by
    subst hn
    have hid1 : σ1.D nid = false := h3 _ List.mem_cons_self
    have ex := hs1.val (opnd_of hx (app_l h1))
    have ey := hs1.val (opnd_of hy (app_r h1))
    obtain ⟨i0, hi, hzz⟩ := Option.map_eq_some_iff.1 he.h
    simp only [Prod.mk.injEq] at hzz
    obtain ⟨hz1, hz2, hz3⟩ := hzz
    have hm : m ≤ 140737488355328 := Nat.le_trans (Nat.le_mul_of_pos_right _ he.b) hl
    have hr := run_make (P := P) w t t' i0 z hs.h hi hz1 .i64 .i64 (m : Int) (m : Int) (by omega) (by omega)
      (by
        have h3 : ((i0.bytes * m : Nat) : Int) ≤ 281474976710656 := by rw [hz3, Nat.mul_comm]; omega
        rwa [Int.natCast_mul] at h3) (by omega)
    simp only [Int.toNat_natCast] at hr
    rw [hz2] at hr
    have hrun : (execOp a.eval o).run P w = .ok (.value (.slice (some ⟨w.heap.size, 0, none⟩) m m)) (w.alloc (.cells (madeCells z.cells (m * 5)) t')) := by
      unfold execOp
      simp [ho, ex, ey, hr]
    have hcells : madeCells z.cells (m * 5) = ((List.replicate m (⟨0, none, 0, 0, 0, 0, 0⟩ : SaveC)).flatMap SaveC.enc).toArray := by
      have hrep : ∀ k, (List.replicate k (⟨0, none, 0, 0, 0, 0, 0⟩ : SaveC)).flatMap SaveC.enc = zrep k z.cells.toList := by
        intro k
        induction k with
        | zero => rfl
        | succ k ih => rw [List.replicate_succ, List.flatMap_cons, ih, zrep, hz0]
      rw [hrep]
      have := zrep_eq (len := m) he.c he.n
      by_cases h0 : m * 5 = 0
      · have hm0 : m = 0 := by omega
        subst hm0
        simp [madeCells, zrep]
      · simp only [h0, if_false] at this
        apply Array.ext'
        rw [← this]
        rfl
    have hrow := row_of_cells (w := w.alloc (.cells (madeCells z.cells (m * 5)) t')) (d := kSaveC) (g := w.heap.size) (e := t') (base := 0) (ok := fun k => k = w.heap.size) (xs := List.replicate m ⟨0, none, 0, 0, 0, 0, 0⟩) kSaveC_flat (by rw [← hcells]; exact blk_new _ _) (Nat.zero_le _) rfl (by simp; omega)
    rw [List.length_replicate] at hrow
    unfold Oper.wp
    rw [hrun]
    have hinn : Inn e (w.alloc (.cells (madeCells z.cells (m * 5)) t')) (fun k => k = w.heap.size) (.slice (some ⟨w.heap.size, 0, none⟩) m m) (fun _ => 0) (List.replicate m ⟨0, none, 0, 0, 0, 0, 0⟩) (List.replicate m ⟨0, [], 0, 0, 0⟩) := by
      refine ⟨by simp, fun j y x hy hx => ?_⟩
      rw [List.getElem?_replicate] at hy hx
      split at hy
      · rename_i hj
        rw [if_pos hj] at hx
        cases hy
        cases hx
        exact ⟨rfl, rfl, rfl, rfl, Kd.R_nil _ _ _ _ _⟩
      · cases hy
    refine hK _ _ _ _ ((hs1.new (id := nid) (o := .row (kSave e) t' (List.replicate m ⟨0, [], 0, 0, 0⟩)) (v := .slice (some ⟨w.heap.size, 0, none⟩) m m) (own := fun k => k = w.heap.size) hid1 (Kp.alloc w _) ⟨0, save_close hrow hinn⟩ (fun k hk => ?_)).put (av := .o (.i nid)) (dstOk_spec (hn1 ▸ hd)) ⟨upd_same _ _ _, rfl⟩)
    subst hk; simp)
end
end
section
variable {P : Program} {X : Cx} {ops : Array Oper} {o : Oper} {l : List Oper} {σ : St} {K : List (Pre × Eff) → St → Prop} {lg : List (Nat × AV)}
/-- []Save with none. -/
theorem x_buildSN (hgo : GOn ops σ o lg) (hd : dstOk o.dst σ.n = true) {t t' n by_ e : Nat} {z : Value} [hs : TSlice P t t'] [he : TElem P t' n by_ z] [_hv : TSave P t' e] {nid : Nat} (hn : n = 5) (ho : o.op = .buildSlice t 0 #[]) (hid0 : o.dst = some nid) (hid : σ.D nid = false)
    (h : LX P X ops l (σ.app o.dst ⟨.o (.i nid), [(nid, some (.row (kSave e) t' []))], [(nid, true)]⟩) (fun C => K ((⟨lg ++ [], []⟩, ⟨.o (.i nid), [(nid, some (.row (kSave e) t' []))], [(nid, true)]⟩) :: C))) : LX P X ops (o :: l) σ K :=
  Lx.run (h := h) (p := []) (ph := []) (e := ⟨.o (.i nid), [(nid, some (.row (kSave e) t' []))], [(nid, true)]⟩) hgo.1 hgo.2 no_mem no_mem (one_mem hid) (fun σ1 hn1 _ _ h3 μ ω a w hs1 K Q hK => by
    subst hn
    have hid1 : σ1.D nid = false := h3 _ List.mem_cons_self
    obtain ⟨i, hi, hzz⟩ := Option.map_eq_some_iff.1 he.h
    simp only [Prod.mk.injEq] at hzz
    obtain ⟨hz0, hsz, _⟩ := hzz
    have hrun : (execOp a.eval o).run P w = .ok (.value (.slice (some ⟨w.heap.size, 0, none⟩) 0 0)) (w.alloc (.cells #[] t')) := by
      unfold execOp
      simp only [ho]
      simp only [Instr.buildSlice, Sem.run_bind, run_underlying hs.h, Result.andThen_ok, sizeOf, typeInfo, run_program, hi, Sem.run_pure, hsz, Nat.zero_mul, show ∀ f : Nat → Value, Array.map f (Array.range 0) = #[] from fun f => by simp]
      simp [Instr.fill, newRow]
    have hrow := row_of_cells (w := w.alloc (.cells #[] t')) (d := kSaveC) (g := w.heap.size) (e := t') (base := 0) (ok := fun k => k = w.heap.size) (xs := []) kSaveC_flat (blk_new _ _) (Nat.zero_le _) rfl (by simp)
    have hinn : Inn e (w.alloc (.cells #[] t')) (fun k => k = w.heap.size) (.slice (some ⟨w.heap.size, 0, none⟩) 0 0) (fun _ => 0) [] [] := ⟨rfl, fun j y x hy hx => by simp at hy⟩
    unfold Oper.wp
    rw [hrun]
    refine hK _ _ _ _ ((hs1.new (id := nid) (o := .row (kSave e) t' []) (v := .slice (some ⟨w.heap.size, 0, none⟩) 0 0) (own := fun k => k = w.heap.size) hid1 (Kp.alloc w _) ⟨0, save_close hrow hinn⟩ (fun k hk => ?_)).put (av := .o (.i nid)) (dstOk_spec (hn1 ▸ hd)) ⟨upd_same _ _ _, rfl⟩)
    subst hk; simp)
end
/-! Stores into rows of saves; an element's row lent. -/
theorem set_at {α : Type} {l : List α} {j k : Nat} {y z : α} (h : (l.set k y)[j]? = some z) : (j = k ∧ z = y) ∨ (j ≠ k ∧ l[j]? = some z) := by
  by_cases e : j = k
  · subst e
    have hl : j < l.length := by have := (List.getElem?_eq_some_iff.1 h).1; simpa using this
    rw [List.getElem?_set_self hl] at h
    cases h
    exact .inl ⟨rfl, rfl⟩
  · rw [List.getElem?_set_ne (Ne.symm e)] at h
    exact .inr ⟨e, h⟩
section
variable {P : Program} {X : Cx} {ops : Array Oper} {o : Oper} {l : List Oper} {σ : St} {K : List (Pre × Eff) → St → Prop} {lg : List (Nat × AV)} {μ : Mu} {ω : Om} {a : Act} {w : World} {Q : Post} {cd : Code}
/-- An object that is written, and takes in what another one had. -/
theorem Sat.eat (h : Sat X σ μ ω a w) (hA : X.A = []) {id id2 : Nat} {o o2 o1 : AObj} {v : Value} {w1 : World} (hne : id ≠ id2) (hH : σ.H id = some o) (hH2 : σ.H id2 = some o2) (hv : μ id = some v) (hw : Kp w w1 (ω id)) (ho : o1.holds X w1 μ v (fun k => ω id k ∨ ω id2 k)) :
    Sat X { σ with H := upd (upd σ.H id (some o1)) id2 none } μ (upd ω id (fun k => ω id k ∨ ω id2 k)) a w1 := by
  have hT : ∀ k, (ω id k ∨ ω id2 k) → X.S k ∨ X.w0.heap.size ≤ k := fun k hk => hk.elim (fun hk => (h.own id o hH k hk).1) (fun hk => (h.own id2 o2 hH2 k hk).1)
  refine h.gen (T := fun k => ω id k ∨ ω id2 k) rfl rfl (hw.mono (fun _ h => .inl h)) hT (Le.refl _) h.made (fun j => j = id) (fun j oj hj => ?_) (fun i j hi hj hne => absurd (hi.trans hj.symm) hne) (fun q hq => by rw [hA] at hq; cases hq)
  by_cases e3 : j = id2
  · subst e3; simp [upd_same] at hj
  simp only [upd_ne _ e3] at hj
  by_cases e : j = id
  · subst e
    simp only [upd_same] at hj
    cases hj
    refine .inr ⟨rfl, ⟨v, hv, by rw [upd_same]; exact ho⟩, fun k hk => ?_⟩
    rw [upd_same] at hk
    exact ⟨.inl hk, hk.elim (fun h1 => Nat.lt_of_lt_of_le (h.own j o hH k h1).2 hw.size) (fun h1 => Nat.lt_of_lt_of_le (h.own id2 o2 hH2 k h1).2 hw.size)⟩
  · rw [upd_ne _ e] at hj
    exact .inl ⟨e, hj, upd_ne _ e _, fun k hk hk2 => hk2.elim (fun hk2 => h.sep j id oj o hj hH e k hk hk2) (fun hk2 => h.sep j id2 oj o2 hj hH2 e3 k hk hk2)⟩
section
variable (hgo : GOn ops σ o lg) (hd : dstOk o.dst σ.n = true)
include hgo hd
open Classical in
/-- A whole save, into a row of one's own. -/
theorem x_storeDA {t t' e n : Nat} {pl : List (Nat × Nat)} {zs : List Value} [ht : TStruct P t n pl zs] {x z : Operand} {id id2 ix : Nat} {xs : List Save} {y0 : Save} {p q r s : Int} {ag : List Agg} (hA : X.A = []) (hn : n = 5) (ho : o.op = .store t x z) (hx : opnd σ.F x = some (.o (.e id 5 ix 0))) (hz : opnd σ.F z = some (.a [.c (.int .i64 p), .i id2, .c (.int .i64 q), .c (.int .i64 r), .c (.int .i64 s)])) (hne : Nat.beq id id2 = false) (hH : σ.H id = some (.row (kSave e) t' xs)) (hH2 : σ.H id2 = some (.row kAgg e ag)) (hy : xs[ix]? = some y0)
    (h : LX P X ops l (σ.app o.dst ⟨.o (.c undef), [(id, some (.row (kSave e) t' (xs.set ix ⟨p, ag, q, r, s⟩))), (id2, none)], []⟩) (fun C => K ((⟨lg ++ (look x (.o (.e id 5 ix 0)) ++ look z (.a [.c (.int .i64 p), .i id2, .c (.int .i64 q), .c (.int .i64 r), .c (.int .i64 s)])), [(id, .row (kSave e) t' xs), (id2, .row kAgg e ag)]⟩, ⟨.o (.c undef), [(id, some (.row (kSave e) t' (xs.set ix ⟨p, ag, q, r, s⟩))), (id2, none)], []⟩) :: C))) : LX P X ops (o :: l) σ K :=
  Lx.run (h := h) (e := ⟨.o (.c undef), [(id, some (.row (kSave e) t' (xs.set ix ⟨p, ag, q, r, s⟩))), (id2, none)], []⟩) hgo.1 hgo.2 (mem_app (look_fits hx) (look_fits hz)) (two_mem hH hH2) no_mem (fun σ1 hn1 h2 h4 h3 μ ω a w hs1 K Q hK => by
    subst hn
    have hidne : id ≠ id2 := fun e => by subst e; simp at hne
    have hH1 : σ1.H id = some (.row (kSave e) t' xs) := h4 _ List.mem_cons_self
    have hH3 : σ1.H id2 = some (.row kAgg e ag) := h4 (id2, .row kAgg e ag) (by simp)
    obtain ⟨v, hv, B, hS⟩ := hs1.obj id _ hH1
    obtain ⟨f, ys, hR, hI⟩ := save_open hS
    obtain ⟨yc, hyc⟩ : ∃ y, ys[ix]? = some y := elt (by rw [hI.1]; exact (List.getElem?_eq_some_iff.1 hy).1)
    obtain ⟨g, cap, cur, rfl, hown, hb, hsz, hput⟩ := R_put kSaveC_flat hR hyc
    have hcc := cells_con (hs1.ev (opnd_of hz (app_r h2))) (by rfl)
    obtain ⟨u, hu, hcells⟩ := conL5 hcc.1
    have hsize : (a.eval z).cells.size = 5 := by rw [← Array.length_toList, hcells]; rfl
    obtain ⟨A, m, c, hm, hp⟩ := hs1.ev (opnd_of hx (app_l h2))
    rw [hv] at hm
    cases hm
    rw [add_plain] at hp
    simp only [Nat.zero_add, Nat.add_zero] at hp
    have hsz' : ix * 5 + 5 ≤ cur.size := hsz
    obtain ⟨w', hr, hk', hb'⟩ := run_storeAt (P := P) (off := ix * 5) (sizeT_of_agg ht.a) hsize hcc.2 hb hsz'
    have hrun : (execOp a.eval o).run P w = .ok .skip w' := by
      unfold execOp
      simp [ho, hp, hr]
    obtain ⟨v2, hv2, B2, hS2⟩ := hs1.obj id2 _ hH3
    rw [hu] at hv2
    cases hv2
    have hR2 := Kd.R_lower (Kd.S_R hS2) (Nat.zero_le B2)
    obtain ⟨A2, n2, c2, rfl⟩ := slice_of_R hR2
    have hsep : ∀ k, ω id k → ¬ ω id2 k := hs1.sep id id2 _ _ hH1 hH3 hidne
    have hgl : ∀ k, k < w.heap.size → k ≠ g → w'.heap[k]? = w.heap[k]? := fun k hk hne => hk'.kept.2 k hk hne
    have hlt : ∀ k, ω id2 k → k < w.heap.size := fun k hk => (hs1.own id2 _ hH3 k hk).2
    have hrow : kSaveC.R t' w' 0 (fun k => ω id k ∨ ω id2 k) (.slice (some ⟨g, 0, none⟩) ys.length cap) (ys.set ix ⟨p, A2, n2, c2, q, r, s⟩) := Kd.R_mono (hput w' (a.eval z).cells.toList 0 ⟨p, A2, n2, c2, q, r, s⟩ (by rw [Array.length_toList, hsize]; exact Nat.le_refl _) (show w'.heap[g]? = some (.cells (setL cur.toList (ix * 5 + 0) _).toArray t' (0, 0)) from by rw [Nat.add_zero]; exact hb') (by rw [hcells]; rfl)) (fun k hk => .inl hk)
    have hinn : Inn e w' (fun k => ω id k ∨ ω id2 k) (.slice (some ⟨g, 0, none⟩) ys.length cap) (fun k => if ω id2 k then ix else f k) (ys.set ix ⟨p, A2, n2, c2, q, r, s⟩) (xs.set ix ⟨p, ag, q, r, s⟩) := by
      refine ⟨by simp [hI.1], fun j y x hy hx => ?_⟩
      rcases set_at hy with ⟨rfl, rfl⟩ | ⟨hj, hy⟩
      · rcases set_at hx with ⟨_, rfl⟩ | ⟨hj, _⟩
        · refine Inn1.step (w := w) (ok := ω id2) ⟨rfl, rfl, rfl, rfl, hR2⟩ (fun k hk hk2 => hgl k hk2 (fun e => hsep k (e ▸ hown) hk)) (fun k hk hk2 => ⟨⟨.inr hk, fun e => ?_⟩, if_pos hk⟩)
          simp [Value.ownBlock] at e
          exact hsep k (e ▸ hown) hk
        · exact absurd rfl hj
      · rcases set_at hx with ⟨e, _⟩ | ⟨_, hx⟩
        · exact absurd e hj
        · refine (hI.2 j y x hy hx).step (fun k hk hk2 => hgl k hk2 (fun e => hk.1.2 (by simp [Value.ownBlock, e]))) (fun k hk _ => ⟨⟨.inl hk.1.1, hk.1.2⟩, ?_⟩)
          dsimp only
          rw [if_neg (hsep k hk.1.1)]
          exact hk.2
    unfold Oper.wp
    rw [hrun]
    exact hK _ _ _ _ ((hs1.eat hA hidne hH1 hH3 hv (hk'.mono (fun k hk => by rw [hk]; exact hown)) (o1 := .row (kSave e) t' (xs.set ix ⟨p, ag, q, r, s⟩)) ⟨0, save_close hrow hinn⟩).put (av := .o (.c undef)) (dstOk_spec (hn1 ▸ hd)) rfl))
end
theorem saveSet_c {y : Save} {c : SaveC} {off : Nat} {i : Int} {y' : Save} (h : saveSet y off i = some y') : ∃ c' : SaveC, c'.v = c.v ∧ c'.enc = setL c.enc off [.int .i64 i] ∧ off + 1 ≤ 5 ∧ y'.aggs = y.aggs ∧ ((c.at_ = y.at_ ∧ c.mark = y.mark ∧ c.late = y.late ∧ c.over = y.over) → c'.at_ = y'.at_ ∧ c'.mark = y'.mark ∧ c'.late = y'.late ∧ c'.over = y'.over) := by
  match off, h with
  | 0, h => cases h; exact ⟨{ c with at_ := i }, rfl, rfl, by omega, rfl, fun e => ⟨rfl, e.2.1, e.2.2.1, e.2.2.2⟩⟩
  | 1, h => cases h
  | 2, h => cases h; exact ⟨{ c with mark := i }, rfl, rfl, by omega, rfl, fun e => ⟨e.1, rfl, e.2.2.1, e.2.2.2⟩⟩
  | 3, h => cases h; exact ⟨{ c with late := i }, rfl, rfl, by omega, rfl, fun e => ⟨e.1, e.2.1, rfl, e.2.2.2⟩⟩
  | 4, h => cases h; exact ⟨{ c with over := i }, rfl, rfl, by omega, rfl, fun e => ⟨e.1, e.2.1, e.2.2.1, rfl⟩⟩
  | n + 5, h => cases h
/-- The row without element ix's row: that one's header is u. -/
def HoleP (e t : Nat) (xs : List Save) (ix : Nat) (u : Value) (w : World) (v : Value) (own : Nat → Prop) : Prop :=
  ∃ ys yc, kSaveC.R t w 0 own v ys ∧ ys[ix]? = some yc ∧ yc.v = u ∧ ys.length = xs.length ∧ (∀ y, xs[ix]? = some y → yc.at_ = y.at_ ∧ yc.mark = y.mark ∧ yc.late = y.late ∧ yc.over = y.over) ∧ ∃ f : Nat → Nat, ∀ j y x, j ≠ ix → ys[j]? = some y → xs[j]? = some x → Inn1 e w (fun k => (own k ∧ some k ≠ v.ownBlock) ∧ f k = j) y x
theorem HoleP.st {e t : Nat} {xs : List Save} {ix : Nat} {u : Value} {w w1 : World} {T own : Nat → Prop} {v : Value} (hk : Kp w w1 T) (hT : ∀ k, own k → ¬ T k) (h : HoleP e t xs ix u w v own) : HoleP e t xs ix u w1 v own := by
  obtain ⟨ys, yc, hR, h1, h2, h3, h4, f, hI⟩ := h
  exact ⟨ys, yc, Kd.R_step hR (fun k ho hlt => hk.kept.2 k hlt (hT k ho)), h1, h2, h3, h4, f, fun j y x hj hy hx => (hI j y x hj hy hx).step (fun k hk2 hlt => hk.kept.2 k hlt (hT k hk2.1.1)) (fun k hk2 _ => hk2)⟩
def Hole (e t : Nat) (xs : List Save) (ix : Nat) (u : Value) : AObj := .gen (HoleP e t xs ix u) HoleP.st
theorem hole_put {e t ix off : Nat} {xs : List Save} {u : Value} {w : World} {v : Value} {own : Nat → Prop} {y y' : Save} {i : Int} (h : HoleP e t xs ix u w v own) (hy : xs[ix]? = some y) (hset : saveSet y off i = some y') :
    ∃ g cap cur, v = .slice (some ⟨g, 0, none⟩) xs.length cap ∧ own g ∧ w.heap[g]? = some (.cells cur t (0, 0)) ∧ ix * 5 + off + 1 ≤ cur.size ∧ ∀ (w' : World), Kp w w' (fun k => k = g) → w'.heap[g]? = some (.cells (setL cur.toList (ix * 5 + off) [.int .i64 i]).toArray t (0, 0)) → HoleP e t (xs.set ix y') ix u w' v own := by
  obtain ⟨ys, yc, hR, h1, h2, h3, h4, f, hI⟩ := h
  obtain ⟨c', hc1, hc2, hc3, hc4, hc5⟩ := saveSet_c (c := yc) hset
  obtain ⟨g, cap, cur, rfl, hown, hb, hsz, hput⟩ := R_put kSaveC_flat hR h1
  have hsz' : ix * 5 + 5 ≤ cur.size := hsz
  refine ⟨g, cap, cur, by rw [h3], hown, hb, by omega, fun w' hk hb' => ⟨ys.set ix c', c', ?_, ?_, hc1.trans h2, by simp [h3], fun z hz => ?_, f, fun j z x hj hz hx => ?_⟩⟩
  · exact hput w' [.int .i64 i] off c' hc3 hb' hc2
  · simp [(List.getElem?_eq_some_iff.1 h1).1]
  · rcases set_at hz with ⟨_, rfl⟩ | ⟨e, _⟩
    · exact hc5 (h4 y hy)
    · exact absurd rfl e
  · rw [List.getElem?_set_ne (Ne.symm hj)] at hz hx
    refine (hI j z x hj hz hx).step (fun k hk2 hlt => hk.kept.2 k hlt (fun e => hk2.1.2 (by simp [Value.ownBlock, e]))) (fun k hk2 _ => hk2)
section
variable (hgo : GOn ops σ o lg) (hd : dstOk o.dst σ.n = true)
include hgo hd
/-- A number of the element whose row is lent. -/
theorem x_storeH {t t' e : Nat} [ht : TPlain P t] {x z : Operand} {id ix off : Nat} {xs : List Save} {y y' : Save} {i : Int} {u : Value} (ho : o.op = .store t x z) (hx : opnd σ.F x = some (.o (.e id 5 ix off))) (hz : opnd σ.F z = some (.o (.c (.int .i64 i)))) (hH : σ.H id = some (Hole e t' xs ix u)) (hy : xs[ix]? = some y) (hset : saveSet y off i = some y')
    (h : LX P X ops l (σ.app o.dst ⟨.o (.c undef), [(id, some (Hole e t' (xs.set ix y') ix u))], []⟩) (fun C => K ((⟨lg ++ (look x (.o (.e id 5 ix off)) ++ look z (.o (.c (.int .i64 i)))), [(id, Hole e t' xs ix u)]⟩, ⟨.o (.c undef), [(id, some (Hole e t' (xs.set ix y') ix u))], []⟩) :: C))) : LX P X ops (o :: l) σ K :=
  Lx.run (h := h) (e := ⟨.o (.c undef), [(id, some (Hole e t' (xs.set ix y') ix u))], []⟩) hgo.1 hgo.2 (mem_app (look_fits hx) (look_fits hz)) (one_mem hH) no_mem (fun σ1 hn1 h2 h4 h3 μ ω a w hs1 K Q hK => by
    have hH1 : σ1.H id = some (Hole e t' xs ix u) := h4 _ List.mem_cons_self
    obtain ⟨v, hv, hP⟩ := hs1.obj id _ hH1
    have hP' : HoleP e t' xs ix u w v (ω id) := hP
    obtain ⟨g, cap, cur, rfl, hown, hb, hsz, hput⟩ := hole_put hP' hy hset
    have hcc := cells_con (hs1.ev (opnd_of hz (app_r h2))) (by rfl)
    have hcells : (a.eval z).cells.toList = [.int .i64 i] := conL_eq (cs := [.int .i64 i]) hcc.1
    have hsize : (a.eval z).cells.size = 1 := by rw [← Array.length_toList, hcells]; rfl
    obtain ⟨A, m, c, hm, hp⟩ := hs1.ev (opnd_of hx (app_l h2))
    rw [hv] at hm
    cases hm
    rw [add_plain] at hp
    simp only [Nat.zero_add] at hp
    obtain ⟨w', hr, hk', hb'⟩ := run_storeAt (P := P) (off := ix * 5 + off) ht.s hsize hcc.2 hb hsz
    rw [hcells] at hb'
    have hrun : (execOp a.eval o).run P w = .ok .skip w' := by
      unfold execOp
      simp [ho, hp, hr]
    unfold Oper.wp
    rw [hrun]
    exact hK _ _ _ _ ((hs1.set (id := id) (o1 := Hole e t' (xs.set ix y') ix u) hH1 hv (hk'.mono (fun k hk => by rw [hk]; exact hown)) (hput w' hk' hb')).put (av := .o (.c undef)) (dstOk_spec (hn1 ▸ hd)) rfl))
/-- The place of the element whose row is lent. -/
theorem x_indexH {t t' e n by_ : Nat} {z : Value} [hs : TSlice P t t'] [he : TElem P t' n by_ z] {x y : Operand} {id ix : Nat} {xs : List Save} {u : Value} {k : IntKind} {i : Int} (ho : o.op = .indexAddr t x y) (hx : opnd σ.F x = some (.o (.i id))) (hy : opnd σ.F y = some (.o (.c (.int k i)))) (hH : σ.H id = some (Hole e t' xs ix u)) (hn : n = 5) (hi : i = (ix : Int)) (hlt : ix < xs.length)
    (h : LX P X ops l (σ.app o.dst ⟨.o (.e id 5 ix 0), [], []⟩) (fun C => K ((⟨lg ++ (look x (.o (.i id)) ++ look y (.o (.c (.int k i)))), [(id, Hole e t' xs ix u)]⟩, ⟨.o (.e id 5 ix 0), [], []⟩) :: C))) : LX P X ops (o :: l) σ K :=
  Lx.val (h := h) hgo.1 hgo.2 hd (mem_app (look_fits hx) (look_fits hy)) (one_mem hH) (fun σ1 h1 h2 μ ω a w hs1 => by
    subst hn
    have hH1 : σ1.H id = some (Hole e t' xs ix u) := h2 _ List.mem_cons_self
    obtain ⟨v, hv, hP⟩ := hs1.obj id _ hH1
    obtain ⟨ys, yc, hR, hyc, hu, hyl, _⟩ := (show HoleP e t' xs ix u w v (ω id) from hP)
    obtain ⟨A, c, rfl, hl, hC⟩ := Kd.R_reads hR
    obtain ⟨ad, hA, hcells⟩ := hC.2.2 (by have := hC.1; omega)
    subst hA
    have e1 : μ id = some (a.eval x) := (hs1.ev (opnd_of hx (app_l h1))).1
    have e2 := hs1.val (opnd_of hy (app_r h1))
    rw [hv] at e1
    injection e1 with e1
    obtain ⟨hu2, hsz⟩ := sliceT_parts (sliceT_of (P := P) (t := t) (e := t') (n := 5) (z := z) (by_ := by_))
    obtain ⟨cs, hlen, _, hcell⟩ := hcells ix yc hyc
    have hlen5 : cs.length = 5 := hlen
    have hc0 : w.cell? (ad.add (ix * 5)) = some (cs[0]'(by omega)) := hcell 0 _ (List.getElem?_eq_getElem (by omega))
    refine ⟨.pointer (some (ad.add (ix * 5))), ?_, ad, ys.length, c, hv, ?_⟩
    · unfold execOp
      simp only [ho, ← e1, e2, hi]
      simp [Instr.indexAt, asIntOf, run_underlying hu2, run_size hsz, hyl, hlt]
    · rw [Nat.add_zero, ← spot_of_cell hc0])
/-- The row that is lent. -/
theorem x_loadH {t t' e : Nat} [ht : TPlain P t] {x : Operand} {id ix nid : Nat} {xs : List Save} {u : Value} {own : Nat → Prop} (hA : (nid, u, own) ∈ X.A) (ho : o.op = .load t x) (hx : opnd σ.F x = some (.o (.e id 5 ix 1))) (hH : σ.H id = some (Hole e t' xs ix u))
    (h : LX P X ops l (σ.app o.dst ⟨.o (.i nid), [], []⟩) (fun C => K ((⟨lg ++ look x (.o (.e id 5 ix 1)), [(id, Hole e t' xs ix u)]⟩, ⟨.o (.i nid), [], []⟩) :: C))) : LX P X ops (o :: l) σ K :=
  Lx.val (h := h) hgo.1 hgo.2 hd (look_fits hx) (one_mem hH) (fun σ1 h1 h2 μ ω a w hs1 => by
    have hH1 : σ1.H id = some (Hole e t' xs ix u) := h2 _ List.mem_cons_self
    obtain ⟨v, hv, hP⟩ := hs1.obj id _ hH1
    obtain ⟨ys, yc, hR, hyc, hu, _⟩ := (show HoleP e t' xs ix u w v (ω id) from hP)
    obtain ⟨A, c, rfl, hl, hC⟩ := Kd.R_reads hR
    obtain ⟨ad, rfl, hcell⟩ := row_cells hC kSaveC_flat hyc
    obtain ⟨A', n', c', hm', hv'⟩ := hs1.ev (opnd_of hx h1)
    rw [hv] at hm'
    cases hm'
    have hmu : μ nid = some u := (hs1.anc _ hA).1
    refine ⟨u, ?_, hmu, by rw [← hu]; rfl⟩
    have hc1 : w.cell? (ad.add (ix * 5 + 1)) = some yc.v := hcell 1 _ rfl
    unfold execOp
    simp only [ho, hv']
    rw [← hu]
    simp [load_one ht.h (cell_off hc1)])
end
def LendQ (e t ix nid id : Nat) (u : Value) (Q : Post) : Post := fun ex σ2 => ∃ ys y2, ex = .normal ∧ σ2.H id = some (Hole e t ys ix u) ∧ ys[ix]? = some y2 ∧ ∃ l, σ2.H nid = some (.row kAgg e l) ∧ Q .normal { σ2 with H := upd (upd σ2.H id (some (.row (kSave e) t (ys.set ix { y2 with aggs := l })))) nid none }
theorem lend_end {e t ix nid id : Nat} {u : Value} {Q : Post} {σ2 : St} {ys : List Save} {y2 : Save} {l : List Agg} (h1 : σ2.H id = some (Hole e t ys ix u)) (h2 : σ2.H nid = some (.row kAgg e l)) (h3 : ys[ix]? = some y2) (h : Q .normal { σ2 with H := upd (upd σ2.H id (some (.row (kSave e) t (ys.set ix { y2 with aggs := l })))) nid none }) : LendQ e t ix nid id u Q .normal σ2 := ⟨ys, y2, rfl, h1, h3, l, h2, h⟩
/-- An element's row is lent: what is done is told over another context. -/
theorem ax_lend {e t ix nid id : Nat} {xs : List Save} {y : Save} (hH : σ.H id = some (.row (kSave e) t xs)) (hy : xs[ix]? = some y) (hid : σ.D nid = false) (hA : ∀ q ∈ X.A, q.1 = id)
    (h : ∀ u v (oh oi : Nat → Prop), AX P ⟨X.w0, X.S, [(id, v, oh), (nid, u, oi)]⟩ cd { σ with H := upd (upd σ.H id (some (Hole e t xs ix u))) nid (some (.row kAgg e y.aggs)), D := upd σ.D nid true } (LendQ e t ix nid id u Q)) : AX P X cd σ Q := fun μ ω a w hs => by
  obtain ⟨v, hv, B, hS⟩ := hs.obj id _ hH
  obtain ⟨f, ys, hR, hI⟩ := save_open hS
  obtain ⟨yc, hyc⟩ : ∃ y, ys[ix]? = some y := elt (by rw [hI.1]; exact (List.getElem?_eq_some_iff.1 hy).1)
  have hin := hI.2 ix yc y hyc hy
  have h0 := hs.made nid hid
  have hne : id ≠ nid := fun e => by rw [e, h0] at hv; cases hv
  have hown := hs.own id _ hH
  -- the element's blocks, and the others
  let oi : Nat → Prop := fun k => (ω id k ∧ some k ≠ v.ownBlock) ∧ f k = ix
  let oh : Nat → Prop := fun k => ω id k ∧ ¬ oi k
  have hoi : ∀ k, oi k → ω id k := fun k hk => hk.1.1
  have hhole : HoleP e t xs ix yc.v w v oh := by
    refine ⟨ys, yc, ?_, hyc, rfl, hI.1, fun z hz => ?_, f, fun j z x hj hz hx => ?_⟩
    · have hflat : kSaveC.R t w 0 (fun k => some k = v.ownBlock) v ys := Kd.R_tight rfl hR
      exact Kd.R_mono hflat (fun k hk => ⟨hR.1 k hk.symm, fun h2 => h2.1.2 hk⟩)
    · rw [hy] at hz; cases hz; exact ⟨hin.1, hin.2.1, hin.2.2.1, hin.2.2.2.1⟩
    · refine (hI.2 j z x hz hx).step (fun _ _ _ => rfl) (fun k hk _ => ⟨⟨⟨hk.1.1, fun h2 => hj (hk.2.symm.trans h2.2)⟩, hk.1.2⟩, hk.2⟩)
  have hle : Le μ (upd μ nid (some yc.v)) := Up_upd h0
  have hs2 : Sat ⟨X.w0, X.S, [(id, v, oh), (nid, yc.v, oi)]⟩ { σ with H := upd (upd σ.H id (some (Hole e t xs ix yc.v))) nid (some (.row kAgg e y.aggs)), D := upd σ.D nid true } (upd μ nid (some yc.v)) (upd (upd ω id oh) nid oi) a w := by
    have key : ∀ j oj, upd (upd σ.H id (some (Hole e t xs ix yc.v))) nid (some (.row kAgg e y.aggs)) j = some oj → (j = nid ∧ oj = .row kAgg e y.aggs) ∨ (j = id ∧ oj = Hole e t xs ix yc.v) ∨ (j ≠ nid ∧ j ≠ id ∧ σ.H j = some oj) := fun j oj hj => by
      by_cases e1 : j = nid
      · subst e1; rw [upd_same] at hj; cases hj; exact .inl ⟨rfl, rfl⟩
      rw [upd_ne _ e1] at hj
      by_cases e2 : j = id
      · subst e2; rw [upd_same] at hj; cases hj; exact .inr (.inl ⟨rfl, rfl⟩)
      rw [upd_ne _ e2] at hj
      exact .inr (.inr ⟨e1, e2, hj⟩)
    have wn : upd (upd ω id oh) nid oi nid = oi := upd_same _ _ _
    have wi : upd (upd ω id oh) nid oi id = oh := by rw [upd_ne _ hne, upd_same]
    have wo : ∀ j, j ≠ nid → j ≠ id → upd (upd ω id oh) nid oi j = ω j := fun j h1 h2 => by rw [upd_ne _ h1, upd_ne _ h2]
    refine ⟨hs.kept, hs.size, hs.defers, fun s av hs' => ?_, fun j hj => ?_, fun j oj hj => ?_, fun j oj hj k hk => ?_, fun i j oi' oj hi hj hij k hki hkj => ?_, fun q hq => ?_⟩
    · obtain ⟨u, hu, hc⟩ := hs.slot s av hs'
      exact ⟨u, hu, AV.con_mono hle hc⟩
    · by_cases e1 : j = nid
      · subst e1; simp [upd_same] at hj
      · rw [upd_ne _ e1]; exact hs.made j (by simpa [upd_ne _ e1] using hj)
    · rcases key j oj hj with ⟨rfl, rfl⟩ | ⟨rfl, rfl⟩ | ⟨e1, e2, hj⟩
      · exact ⟨yc.v, upd_same _ _ _, by rw [wn]; exact ⟨0, S_flat flat_flat hin.2.2.2.2⟩⟩
      · exact ⟨v, hle _ _ hv, by rw [wi]; exact hhole⟩
      · obtain ⟨u, hu, hh⟩ := hs.obj j oj hj
        refine ⟨u, hle _ _ hu, ?_⟩
        rw [wo j e1 e2]
        exact AObj.holds_mono hle (AObj.holds_cx (Y := ⟨X.w0, X.S, [(id, v, oh), (nid, yc.v, oi)]⟩) (fun W hW => hW) hh)
    · rcases key j oj hj with ⟨rfl, rfl⟩ | ⟨rfl, rfl⟩ | ⟨e1, e2, hj⟩
      · rw [wn] at hk; exact hown k (hoi k hk)
      · rw [wi] at hk; exact hown k hk.1
      · rw [wo j e1 e2] at hk; exact hs.own j oj hj k hk
    · rcases key i oi' hi with ⟨rfl, rfl⟩ | ⟨rfl, rfl⟩ | ⟨e1, e2, hi'⟩
      · rw [wn] at hki
        rcases key j oj hj with ⟨rfl, rfl⟩ | ⟨rfl, rfl⟩ | ⟨e3, e4, hj⟩
        · exact hij rfl
        · rw [wi] at hkj; exact hkj.2 hki
        · rw [wo j e3 e4] at hkj; exact hs.sep id j _ _ hH hj (Ne.symm e4) k (hoi k hki) hkj
      · rw [wi] at hki
        rcases key j oj hj with ⟨rfl, rfl⟩ | ⟨rfl, rfl⟩ | ⟨e3, e4, hj⟩
        · rw [wn] at hkj; exact hki.2 hkj
        · exact hij rfl
        · rw [wo j e3 e4] at hkj; exact hs.sep i j _ _ hH hj (Ne.symm e4) k hki.1 hkj
      · rw [wo i e1 e2] at hki
        rcases key j oj hj with ⟨rfl, rfl⟩ | ⟨rfl, rfl⟩ | ⟨e3, e4, hj⟩
        · rw [wn] at hkj; exact hs.sep i id _ _ hi' hH e2 k hki (hoi k hkj)
        · rw [wi] at hkj; exact hs.sep i j _ _ hi' hH e2 k hki hkj.1
        · rw [wo j e3 e4] at hkj; exact hs.sep i j _ _ hi' hj hij k hki hkj
    · rcases List.mem_cons.1 hq with rfl | hq
      · exact ⟨hle _ _ hv, wi⟩
      · rw [List.mem_singleton] at hq
        subst hq
        exact ⟨upd_same _ _ _, wn⟩
  refine wp_mono (h yc.v v oh oi _ _ a w hs2) (fun ex a2 w2 hq => ?_)
  obtain ⟨μ2, ω2, σ2, hs3, zs, y2, rfl, hH2, hy2, l2, hN2, hQ⟩ := hq
  have a1 := hs3.anc (id, v, oh) (by simp)
  have a2' := hs3.anc (nid, yc.v, oi) (by simp)
  simp only at a1 a2'
  obtain ⟨v2, hv2, hP2⟩ := hs3.obj id _ hH2
  rw [a1.1] at hv2
  cases hv2
  obtain ⟨u2, hu2, B2, hS2⟩ := hs3.obj nid _ hN2
  rw [a2'.1] at hu2
  cases hu2
  rw [a2'.2] at hS2
  have hP3 : HoleP e t zs ix yc.v w2 v oh := by have := hP2; rw [a1.2] at this; exact this
  obtain ⟨cs, cc, hRc, hcc, hcu, hcl, hcf, f2, hIc⟩ := hP3
  have hR2 := Kd.R_lower (Kd.S_R hS2) (Nat.zero_le B2)
  have hsplit : ∀ k, ω id k ↔ oh k ∨ oi k := fun k => ⟨fun hk => by
    by_cases h2 : oi k
    · exact .inr h2
    · exact .inl ⟨hk, h2⟩, fun hk => hk.elim (fun h2 => h2.1) (hoi k)⟩
  have hnoi : ∀ k, v.ownBlock = some k → ¬ oi k := fun k hk h2 => h2.1.2 hk.symm
  have hnew : (kSave e).S t w2 0 (ω id) v (zs.set ix { y2 with aggs := l2 }) := by
    classical
    refine save_close (f := fun k => if oi k then ix else if f2 k = ix then ix + 1 else f2 k) (ys := cs) (Kd.R_mono hRc (fun k hk => hk.1)) ⟨by simp [hcl], fun j z x hz hx => ?_⟩
    rcases set_at hx with ⟨rfl, rfl⟩ | ⟨hj, hx⟩
    · rw [hcc] at hz
      cases hz
      have := hcf y2 hy2
      refine ⟨this.1, this.2.1, this.2.2.1, this.2.2.2, ?_⟩
      rw [hcu]
      exact Kd.R_mono hR2 (fun k hk => ⟨⟨hoi k hk, hk.1.2⟩, if_pos hk⟩)
    · refine (hIc j z x hj hz hx).step (fun _ _ _ => rfl) (fun k hk _ => ⟨⟨hk.1.1.1, hk.1.2⟩, ?_⟩)
      dsimp only
      rw [if_neg hk.1.1.2, if_neg (by rw [hk.2]; exact hj)]
      exact hk.2
  refine ⟨μ2, upd (upd ω2 id (ω id)) nid (fun _ => False), _, ?_, hQ⟩
  have key : ∀ j oj, upd (upd σ2.H id (some (.row (kSave e) t (zs.set ix { y2 with aggs := l2 })))) nid none j = some oj → (j = id ∧ oj = .row (kSave e) t (zs.set ix { y2 with aggs := l2 })) ∨ (j ≠ nid ∧ j ≠ id ∧ σ2.H j = some oj) := fun j oj hj => by
    by_cases e1 : j = nid
    · subst e1; rw [upd_same] at hj; cases hj
    rw [upd_ne _ e1] at hj
    by_cases e2 : j = id
    · subst e2; rw [upd_same] at hj; cases hj; exact .inl ⟨rfl, rfl⟩
    rw [upd_ne _ e2] at hj
    exact .inr ⟨e1, e2, hj⟩
  have wi : upd (upd ω2 id (ω id)) nid (fun _ => False) id = ω id := by rw [upd_ne _ hne, upd_same]
  have wo : ∀ j, j ≠ nid → j ≠ id → upd (upd ω2 id (ω id)) nid (fun _ => False) j = ω2 j := fun j h1 h2 => by rw [upd_ne _ h1, upd_ne _ h2]
  have hso : ∀ j oj, j ≠ nid → j ≠ id → σ2.H j = some oj → ∀ k, ω2 j k → ¬ ω id k := fun j oj h1 h2 hj k hk hk2 => by
    rcases (hsplit k).1 hk2 with h3 | h3
    · exact hs3.sep j id _ _ hj hH2 h2 k hk (by rw [a1.2]; exact h3)
    · exact hs3.sep j nid _ _ hj hN2 h1 k hk (by rw [a2'.2]; exact h3)
  refine ⟨hs3.kept, hs3.size, hs3.defers, hs3.slot, hs3.made, fun j oj hj => ?_, fun j oj hj k hk => ?_, fun i j oi' oj hi hj hij k hki hkj => ?_, fun q hq => ?_⟩
  · rcases key j oj hj with ⟨rfl, rfl⟩ | ⟨e1, e2, hj⟩
    · exact ⟨v, a1.1, by rw [wi]; exact ⟨0, hnew⟩⟩
    · obtain ⟨u, hu, hh⟩ := hs3.obj j oj hj
      refine ⟨u, hu, ?_⟩
      rw [wo j e1 e2]
      exact AObj.holds_cx (X := ⟨X.w0, X.S, [(id, v, oh), (nid, yc.v, oi)]⟩) (fun W hW => hW) hh
  · rcases key j oj hj with ⟨rfl, rfl⟩ | ⟨e1, e2, hj⟩
    · rw [wi] at hk
      rcases (hsplit k).1 hk with h3 | h3
      · exact hs3.own j _ hH2 k (by rw [a1.2]; exact h3)
      · exact hs3.own nid _ hN2 k (by rw [a2'.2]; exact h3)
    · rw [wo j e1 e2] at hk; exact hs3.own j oj hj k hk
  · rcases key i oi' hi with ⟨rfl, rfl⟩ | ⟨e1, e2, hi'⟩
    · rw [wi] at hki
      rcases key j oj hj with ⟨rfl, rfl⟩ | ⟨e3, e4, hj⟩
      · exact hij rfl
      · rw [wo j e3 e4] at hkj; exact hso j oj e3 e4 hj k hkj hki
    · rw [wo i e1 e2] at hki
      rcases key j oj hj with ⟨rfl, rfl⟩ | ⟨e3, e4, hj⟩
      · rw [wi] at hkj; exact hso i oi' e1 e2 hi' k hki hkj
      · rw [wo j e3 e4] at hkj; exact hs3.sep i j _ _ hi' hj hij k hki hkj
  · have hqi := hA q hq
    have hq0 := hs.anc q hq
    rw [hqi] at hq0 ⊢
    rw [hv] at hq0
    exact ⟨a1.1.trans hq0.1, wi.trans hq0.2⟩
end
instance : DecidableEq Save := fun a b => decidable_of_iff (a.at_ = b.at_ ∧ a.aggs = b.aggs ∧ a.mark = b.mark ∧ a.late = b.late ∧ a.over = b.over) ⟨fun h => by cases a; cases b; simp_all, fun h => by subst h; simp⟩
theorem Save.eq_iff {a b : Save} : a = b ↔ a.at_ = b.at_ ∧ a.aggs = b.aggs ∧ a.mark = b.mark ∧ a.late = b.late ∧ a.over = b.over := ⟨fun h => by subst h; simp, fun h => by cases a; cases b; simp_all⟩
def aggSum (xs : List Save) : Nat := (xs.map (fun x => x.aggs.length)).sum
theorem aggSum_snoc {xs : List Save} {k : Nat} {x : Save} (h : xs[k]? = some x) : aggSum (xs.take (k + 1)) = aggSum (xs.take k) + x.aggs.length := by
  have e : xs.take (k + 1) = xs.take k ++ [x] := by rw [List.take_add_one, h]; rfl
  simp [aggSum, e]
theorem aggSum_take (xs : List Save) (k : Nat) : aggSum (xs.take k) ≤ aggSum xs := by
  have h : aggSum xs = aggSum (xs.take k) + aggSum (xs.drop k) := by
    conv => lhs; rw [← List.take_append_drop k xs]
    unfold aggSum
    rw [List.map_append, List.sum_append]
  omega
theorem aggSum_at {xs : List Save} {k : Nat} {x : Save} (h : xs[k]? = some x) : aggSum (xs.take k) + x.aggs.length ≤ aggSum xs := by
  rw [← aggSum_snoc h]
  exact aggSum_take _ _
theorem aggSum_mem {xs : List Save} {x : Save} (h : x ∈ xs) : x.aggs.length ≤ aggSum xs := by
  obtain ⟨k, hk⟩ := List.mem_iff_getElem?.1 h
  have := aggSum_at hk
  omega
def mkSave (al : Int → Nat → Agg) (k : Int) (x : Save) : Save := ⟨k, (List.range x.aggs.length).map (al (k + 1)), k + 1 + (x.aggs.length : Int) * 6, k + 1 + (x.aggs.length : Int) * 6 + 1, k + 1 + (x.aggs.length : Int) * 6 + 1 + 1⟩
def mkNext (k : Int) (x : Save) : Int := k + 1 + (x.aggs.length : Int) * 6 + 1 + 1 + 1
def mkEnd (k : Int) (xs : List Save) : Int := xs.foldl mkNext k
def mkSaves (al : Int → Nat → Agg) : Int → List Save → List Save
  | _, [] => []
  | k, x :: xs => mkSave al k x :: mkSaves al (mkNext k x) xs
theorem mkEnd_eq : ∀ (xs : List Save) (k : Int), mkEnd k xs = k + 4 * (xs.length : Int) + 6 * (aggSum xs : Int)
  | [], k => by simp [mkEnd, aggSum]
  | x :: xs, k => by
    have := mkEnd_eq xs (mkNext k x)
    unfold mkEnd at this ⊢
    rw [List.foldl_cons, this]
    simp [aggSum, mkNext]
    omega
theorem mkEnd_snoc {xs : List Save} {k : Nat} {x : Save} {k0 : Int} (h : xs[k]? = some x) : mkEnd k0 (xs.take (k + 1)) = mkNext (mkEnd k0 (xs.take k)) x := by
  have e : xs.take (k + 1) = xs.take k ++ [x] := by rw [List.take_add_one, h]; rfl
  rw [mkEnd, e, List.foldl_append]
  rfl
theorem mkSaves_len {al : Int → Nat → Agg} : ∀ (xs : List Save) (k : Int), (mkSaves al k xs).length = xs.length
  | [], _ => rfl
  | x :: xs, k => by rw [mkSaves, List.length_cons, mkSaves_len xs, List.length_cons]
theorem mkSaves_app {al : Int → Nat → Agg} : ∀ (xs ys : List Save) (k : Int), mkSaves al k (xs ++ ys) = mkSaves al k xs ++ mkSaves al (mkEnd k xs) ys
  | [], ys, k => rfl
  | x :: xs, ys, k => by
    rw [List.cons_append, mkSaves, mkSaves, mkSaves_app xs ys]
    rfl
theorem mkSaves_snoc {al : Int → Nat → Agg} {xs : List Save} {k : Nat} {x : Save} {k0 : Int} (h : xs[k]? = some x) : mkSaves al k0 (xs.take (k + 1)) = mkSaves al k0 (xs.take k) ++ [mkSave al (mkEnd k0 (xs.take k)) x] := by
  have e : xs.take (k + 1) = xs.take k ++ [x] := by rw [List.take_add_one, h]; rfl
  rw [e, mkSaves_app]
  rfl
theorem mkSaves_at {al : Int → Nat → Agg} {xs : List Save} {k : Nat} {x : Save} {k0 : Int} (h : xs[k]? = some x) : (mkSaves al k0 xs)[k]? = some (mkSave al (mkEnd k0 (xs.take k)) x) := by
  have hl := (List.getElem?_eq_some_iff.1 h).1
  have e : xs = xs.take (k + 1) ++ xs.drop (k + 1) := (List.take_append_drop _ _).symm
  have h2 := mkSaves_snoc (al := al) (k0 := k0) h
  conv => lhs; rw [e, mkSaves_app, h2]
  have hlen : (mkSaves al k0 (xs.take k)).length = k := by rw [mkSaves_len, List.length_take]; omega
  rw [List.append_assoc, List.getElem?_append_right (by omega), hlen]
  simp
theorem mark_at {al : Int → Nat → Agg} {xs : List Save} {k : Nat} {x : Save} {k0 : Int} (h : xs[k]? = some x) : (mkSaves al k0 (xs.take k) ++ xs.drop k)[k]? = some x := by
  have hl := (List.getElem?_eq_some_iff.1 h).1
  have hlen : (mkSaves al k0 (xs.take k)).length = k := by rw [mkSaves_len, List.length_take]; omega
  rw [List.getElem?_append_right (by omega), hlen]
  simpa using h
theorem mark_set {al : Int → Nat → Agg} {xs : List Save} {k : Nat} {x y : Save} {k0 : Int} (h : xs[k]? = some x) (e : y = mkSave al (mkEnd k0 (xs.take k)) x) : (mkSaves al k0 (xs.take k) ++ xs.drop k).set k y = mkSaves al k0 (xs.take (k + 1)) ++ xs.drop (k + 1) := by
  have hl := (List.getElem?_eq_some_iff.1 h).1
  have hlen : (mkSaves al k0 (xs.take k)).length = k := by rw [mkSaves_len, List.length_take]; omega
  rw [mkSaves_snoc h, List.set_append_right _ _ (by omega), hlen, Nat.sub_self, List.append_assoc, e]
  obtain ⟨_, rfl⟩ := List.getElem?_eq_some_iff.1 h
  rw [List.drop_eq_getElem_cons hl]
  rfl
theorem mark_len2 {al : Int → Nat → Agg} {xs : List Save} {k : Nat} {k0 : Int} (h : k ≤ xs.length) : (mkSaves al k0 (xs.take k) ++ xs.drop k).length = xs.length := by
  rw [List.length_append, mkSaves_len, List.length_take, List.length_drop]; omega
theorem anc_one {X : Cx} {nm : Nat} (h : ∀ D ρ, ([nm].all fun q => D q && Nat.beq (ρ q) q) = true → ancB X D ρ = true) : ∀ q ∈ X.A, q.1 = nm := fun q hq => by
  have h1 := h (fun k => Nat.beq k nm) id (by simp)
  have h2 := List.all_eq_true.1 h1 q hq
  rw [Bool.and_eq_true] at h2
  exact Nat.eq_of_beq_eq_true h2.1
end Go.Proofs.Ytplcjkgbjapbmaa.C
