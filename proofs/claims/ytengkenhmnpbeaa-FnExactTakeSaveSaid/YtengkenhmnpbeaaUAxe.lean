import Derived.Test.YtengkenhmnpbeaaUp
import Derived.Test.YtengkenhmnpbeaaUAxd
namespace Go.Proofs.Ytengkenhmnpbeaa.C
open Go.RowKit Go.Proofs.YtengkenhmnpbeaaW Go.Proofs.YtengkenhmnpbeaaW.PrintWords Go.Proofs.Ytengkenhmnpbeaa.U
set_option maxHeartbeats 1000000
set_option maxRecDepth 100000
set_option linter.unusedVariables false
set_option linter.unusedSimpArgs false
/-! Stores into rows of saves; an element's row lent. -/
theorem set_at {α : Type} {l : List α} {j k : Nat} {y z : α} (h : (l.set k y)[j]? = some z) : (j = k ∧ z = y) ∨ (j ≠ k ∧ l[j]? = some z) := by
  by_cases e : j = k
  · subst e
    have hl : j < l.length := by have := (List.getElem?_eq_some_iff.1 h).1; simpa using this
    rw [List.getElem?_set_self hl] at h
    cases h
    exact .inl ⟨rfl, rfl⟩
  · rw [List.getElem?_set_ne (Ne.symm e)] at h
    exact .inr ⟨e, h⟩
section
variable {P : Program} {X : Cx} {ops : Array Oper} {o : Oper} {l : List Oper} {σ : St} {K : List (Pre × Eff) → St → Prop} {lg : List (Nat × AV)} {μ : Mu} {ω : Om} {a : Act} {w : World} {Q : Post} {cd : Code}
/-- An object that is written, and takes in what another one had. -/
theorem Sat.eat (h : Sat X σ μ ω a w) (hA : X.A = []) {id id2 : Nat} {o o2 o1 : AObj} {v : Value} {w1 : World} (hne : id ≠ id2) (hH : σ.H id = some o) (hH2 : σ.H id2 = some o2) (hv : μ id = some v) (hw : Kp w w1 (ω id)) (ho : o1.holds X w1 μ v (fun k => ω id k ∨ ω id2 k)) :
    Sat X { σ with H := upd (upd σ.H id (some o1)) id2 none } μ (upd ω id (fun k => ω id k ∨ ω id2 k)) a w1 := by
  have hT : ∀ k, (ω id k ∨ ω id2 k) → X.S k ∨ X.w0.heap.size ≤ k := fun k hk => hk.elim (fun hk => (h.own id o hH k hk).1) (fun hk => (h.own id2 o2 hH2 k hk).1)
  refine h.gen (T := fun k => ω id k ∨ ω id2 k) rfl rfl (hw.mono (fun _ h => .inl h)) hT (Le.refl _) h.made (fun j => j = id) (fun j oj hj => ?_) (fun i j hi hj hne => absurd (hi.trans hj.symm) hne) (fun q hq => by rw [hA] at hq; cases hq)
  by_cases e3 : j = id2
  · subst e3; simp [upd_same] at hj
  simp only [upd_ne _ e3] at hj
  by_cases e : j = id
  · subst e
    simp only [upd_same] at hj
    cases hj
    refine .inr ⟨rfl, ⟨v, hv, by rw [upd_same]; exact ho⟩, fun k hk => ?_⟩
    rw [upd_same] at hk
    exact ⟨.inl hk, hk.elim (fun h1 => Nat.lt_of_lt_of_le (h.own j o hH k h1).2 hw.size) (fun h1 => Nat.lt_of_lt_of_le (h.own id2 o2 hH2 k h1).2 hw.size)⟩
  · rw [upd_ne _ e] at hj
    exact .inl ⟨e, hj, upd_ne _ e _, fun k hk hk2 => hk2.elim (fun hk2 => h.sep j id oj o hj hH e k hk hk2) (fun hk2 => h.sep j id2 oj o2 hj hH2 e3 k hk hk2)⟩
section
variable (hgo : GOn ops σ o lg) (hd : dstOk o.dst σ.n = true)
include hgo hd
open Classical in
/-- A whole save, into a row of one's own. -/
theorem x_storeDA {t t' e n : Nat} {pl : List (Nat × Nat)} {zs : List Value} [ht : TStruct P t n pl zs] {x z : Operand} {id id2 ix : Nat} {xs : List Save} {y0 : Save} {p q r s : Int} {ag : List Agg} (hA : X.A = []) (hn : n = 5) (ho : o.op = .store t x z) (hx : opnd σ.F x = some (.o (.e id 5 ix 0))) (hz : opnd σ.F z = some (.a [.c (.int .i64 p), .i id2, .c (.int .i64 q), .c (.int .i64 r), .c (.int .i64 s)])) (hne : Nat.beq id id2 = false) (hH : σ.H id = some (.row (kSave e) t' xs)) (hH2 : σ.H id2 = some (.row kAgg e ag)) (hy : xs[ix]? = some y0)
    (h : LX P X ops l (σ.app o.dst ⟨.o (.c undef), [(id, some (.row (kSave e) t' (xs.set ix ⟨p, ag, q, r, s⟩))), (id2, none)], []⟩) (fun C => K ((⟨lg ++ (look x (.o (.e id 5 ix 0)) ++ look z (.a [.c (.int .i64 p), .i id2, .c (.int .i64 q), .c (.int .i64 r), .c (.int .i64 s)])), [(id, .row (kSave e) t' xs), (id2, .row kAgg e ag)]⟩, ⟨.o (.c undef), [(id, some (.row (kSave e) t' (xs.set ix ⟨p, ag, q, r, s⟩))), (id2, none)], []⟩) :: C))) : LX P X ops (o :: l) σ K :=
  Lx.run (h := h) (e := ⟨.o (.c undef), [(id, some (.row (kSave e) t' (xs.set ix ⟨p, ag, q, r, s⟩))), (id2, none)], []⟩) hgo.1 hgo.2 (mem_app (look_fits hx) (look_fits hz)) (two_mem hH hH2) no_mem (fun σ1 hn1 h2 h4 h3 μ ω a w hs1 K Q hK => by
    subst hn
    have hidne : id ≠ id2 := fun e => by subst e; simp at hne
    have hH1 : σ1.H id = some (.row (kSave e) t' xs) := h4 _ List.mem_cons_self
    have hH3 : σ1.H id2 = some (.row kAgg e ag) := h4 (id2, .row kAgg e ag) (by simp)
    obtain ⟨v, hv, B, hS⟩ := hs1.obj id _ hH1
    obtain ⟨f, ys, hR, hI⟩ := save_open hS
    obtain ⟨yc, hyc⟩ : ∃ y, ys[ix]? = some y := elt (by rw [hI.1]; exact (List.getElem?_eq_some_iff.1 hy).1)
    obtain ⟨g, cap, cur, rfl, hown, hb, hsz, hput⟩ := R_put kSaveC_flat hR hyc
    have hcc := cells_con (hs1.ev (opnd_of hz (app_r h2))) (by rfl)
    obtain ⟨u, hu, hcells⟩ := conL5 hcc.1
    have hsize : (a.eval z).cells.size = 5 := by rw [← Array.length_toList, hcells]; rfl
    obtain ⟨A, m, c, hm, hp⟩ := hs1.ev (opnd_of hx (app_l h2))
    rw [hv] at hm
    cases hm
    rw [add_plain] at hp
    simp only [Nat.zero_add, Nat.add_zero] at hp
    have hsz' : ix * 5 + 5 ≤ cur.size := hsz
    obtain ⟨w', hr, hk', hb'⟩ := run_storeAt (P := P) (off := ix * 5) (sizeT_of_agg ht.a) hsize hcc.2 hb hsz'
    have hrun : (execOp a.eval o).run P w = .ok .skip w' := by
      unfold execOp
      simp [ho, hp, hr]
    obtain ⟨v2, hv2, B2, hS2⟩ := hs1.obj id2 _ hH3
    rw [hu] at hv2
    cases hv2
    have hR2 := Kd.R_lower (Kd.S_R hS2) (Nat.zero_le B2)
    obtain ⟨A2, n2, c2, rfl⟩ := slice_of_R hR2
    have hsep : ∀ k, ω id k → ¬ ω id2 k := hs1.sep id id2 _ _ hH1 hH3 hidne
    have hgl : ∀ k, k < w.heap.size → k ≠ g → w'.heap[k]? = w.heap[k]? := fun k hk hne => hk'.kept.2 k hk hne
    have hlt : ∀ k, ω id2 k → k < w.heap.size := fun k hk => (hs1.own id2 _ hH3 k hk).2
    have hrow : kSaveC.R t' w' 0 (fun k => ω id k ∨ ω id2 k) (.slice (some ⟨g, 0, none⟩) ys.length cap) (ys.set ix ⟨p, A2, n2, c2, q, r, s⟩) := Kd.R_mono (hput w' (a.eval z).cells.toList 0 ⟨p, A2, n2, c2, q, r, s⟩ (by rw [Array.length_toList, hsize]; exact Nat.le_refl _) (show w'.heap[g]? = some (.cells (setL cur.toList (ix * 5 + 0) _).toArray t' (0, 0)) from by rw [Nat.add_zero]; exact hb') (by rw [hcells]; rfl)) (fun k hk => .inl hk)
    have hinn : Inn e w' (fun k => ω id k ∨ ω id2 k) (.slice (some ⟨g, 0, none⟩) ys.length cap) (fun k => if ω id2 k then ix else f k) (ys.set ix ⟨p, A2, n2, c2, q, r, s⟩) (xs.set ix ⟨p, ag, q, r, s⟩) := by
      refine ⟨by simp [hI.1], fun j y x hy hx => ?_⟩
      rcases set_at hy with ⟨rfl, rfl⟩ | ⟨hj, hy⟩
      · rcases set_at hx with ⟨_, rfl⟩ | ⟨hj, _⟩
        · refine Inn1.step (w := w) (ok := ω id2) ⟨rfl, rfl, rfl, rfl, hR2⟩ (fun k hk hk2 => hgl k hk2 (fun e => hsep k (e ▸ hown) hk)) (fun k hk hk2 => ⟨⟨.inr hk, fun e => ?_⟩, if_pos hk⟩)
          simp [Value.ownBlock] at e
          exact hsep k (e ▸ hown) hk
        · exact absurd rfl hj
      · rcases set_at hx with ⟨e, _⟩ | ⟨_, hx⟩
        · exact absurd e hj
        · refine (hI.2 j y x hy hx).step (fun k hk hk2 => hgl k hk2 (fun e => hk.1.2 (by simp [Value.ownBlock, e]))) (fun k hk _ => ⟨⟨.inl hk.1.1, hk.1.2⟩, ?_⟩)
          dsimp only
          rw [if_neg (hsep k hk.1.1)]
          exact hk.2
    unfold Oper.wp
    rw [hrun]
    exact hK _ _ _ _ ((hs1.eat hA hidne hH1 hH3 hv (hk'.mono (fun k hk => by rw [hk]; exact hown)) (o1 := .row (kSave e) t' (xs.set ix ⟨p, ag, q, r, s⟩)) ⟨0, save_close hrow hinn⟩).put (av := .o (.c undef)) (dstOk_spec (hn1 ▸ hd)) rfl))
end
theorem saveSet_c {y : Save} {c : SaveC} {off : Nat} {i : Int} {y' : Save} (h : saveSet y off i = some y') : ∃ c' : SaveC, c'.v = c.v ∧ c'.enc = setL c.enc off [.int .i64 i] ∧ off + 1 ≤ 5 ∧ y'.aggs = y.aggs ∧ ((c.at_ = y.at_ ∧ c.mark = y.mark ∧ c.late = y.late ∧ c.over = y.over) → c'.at_ = y'.at_ ∧ c'.mark = y'.mark ∧ c'.late = y'.late ∧ c'.over = y'.over) := by
  match off, h with
  | 0, h => cases h; exact ⟨{ c with at_ := i }, rfl, rfl, by omega, rfl, fun e => ⟨rfl, e.2.1, e.2.2.1, e.2.2.2⟩⟩
  | 1, h => cases h
  | 2, h => cases h; exact ⟨{ c with mark := i }, rfl, rfl, by omega, rfl, fun e => ⟨e.1, rfl, e.2.2.1, e.2.2.2⟩⟩
  | 3, h => cases h; exact ⟨{ c with late := i }, rfl, rfl, by omega, rfl, fun e => ⟨e.1, e.2.1, rfl, e.2.2.2⟩⟩
  | 4, h => cases h; exact ⟨{ c with over := i }, rfl, rfl, by omega, rfl, fun e => ⟨e.1, e.2.1, e.2.2.1, rfl⟩⟩
  | n + 5, h => cases h
/-- The row without element ix's row: that one's header is u. -/
def HoleP (e t : Nat) (xs : List Save) (ix : Nat) (u : Value) (w : World) (v : Value) (own : Nat → Prop) : Prop :=
  ∃ ys yc, kSaveC.R t w 0 own v ys ∧ ys[ix]? = some yc ∧ yc.v = u ∧ ys.length = xs.length ∧ (∀ y, xs[ix]? = some y → yc.at_ = y.at_ ∧ yc.mark = y.mark ∧ yc.late = y.late ∧ yc.over = y.over) ∧ ∃ f : Nat → Nat, ∀ j y x, j ≠ ix → ys[j]? = some y → xs[j]? = some x → Inn1 e w (fun k => (own k ∧ some k ≠ v.ownBlock) ∧ f k = j) y x
theorem HoleP.st {e t : Nat} {xs : List Save} {ix : Nat} {u : Value} {w w1 : World} {T own : Nat → Prop} {v : Value} (hk : Kp w w1 T) (hT : ∀ k, own k → ¬ T k) (h : HoleP e t xs ix u w v own) : HoleP e t xs ix u w1 v own := by
  obtain ⟨ys, yc, hR, h1, h2, h3, h4, f, hI⟩ := h
  exact ⟨ys, yc, Kd.R_step hR (fun k ho hlt => hk.kept.2 k hlt (hT k ho)), h1, h2, h3, h4, f, fun j y x hj hy hx => (hI j y x hj hy hx).step (fun k hk2 hlt => hk.kept.2 k hlt (hT k hk2.1.1)) (fun k hk2 _ => hk2)⟩
def Hole (e t : Nat) (xs : List Save) (ix : Nat) (u : Value) : AObj := .gen (HoleP e t xs ix u) HoleP.st
theorem hole_put {e t ix off : Nat} {xs : List Save} {u : Value} {w : World} {v : Value} {own : Nat → Prop} {y y' : Save} {i : Int} (h : HoleP e t xs ix u w v own) (hy : xs[ix]? = some y) (hset : saveSet y off i = some y') :
    ∃ g cap cur, v = .slice (some ⟨g, 0, none⟩) xs.length cap ∧ own g ∧ w.heap[g]? = some (.cells cur t (0, 0)) ∧ ix * 5 + off + 1 ≤ cur.size ∧ ∀ (w' : World), Kp w w' (fun k => k = g) → w'.heap[g]? = some (.cells (setL cur.toList (ix * 5 + off) [.int .i64 i]).toArray t (0, 0)) → HoleP e t (xs.set ix y') ix u w' v own := by
  obtain ⟨ys, yc, hR, h1, h2, h3, h4, f, hI⟩ := h
  obtain ⟨c', hc1, hc2, hc3, hc4, hc5⟩ := saveSet_c (c := yc) hset
  obtain ⟨g, cap, cur, rfl, hown, hb, hsz, hput⟩ := R_put kSaveC_flat hR h1
  have hsz' : ix * 5 + 5 ≤ cur.size := hsz
  refine ⟨g, cap, cur, by rw [h3], hown, hb, by omega, fun w' hk hb' => ⟨ys.set ix c', c', ?_, ?_, hc1.trans h2, by simp [h3], fun z hz => ?_, f, fun j z x hj hz hx => ?_⟩⟩
  · exact hput w' [.int .i64 i] off c' hc3 hb' hc2
  · simp [(List.getElem?_eq_some_iff.1 h1).1]
  · rcases set_at hz with ⟨_, rfl⟩ | ⟨e, _⟩
    · exact hc5 (h4 y hy)
    · exact absurd rfl e
  · rw [List.getElem?_set_ne (Ne.symm hj)] at hz hx
    refine (hI j z x hj hz hx).step (fun k hk2 hlt => hk.kept.2 k hlt (fun e => hk2.1.2 (by simp [Value.ownBlock, e]))) (fun k hk2 _ => hk2)
section
variable (hgo : GOn ops σ o lg) (hd : dstOk o.dst σ.n = true)
include hgo hd
/-- A number of the element whose row is lent. -/
theorem x_storeH {t t' e : Nat} [ht : TPlain P t] {x z : Operand} {id ix off : Nat} {xs : List Save} {y y' : Save} {i : Int} {u : Value} (ho : o.op = .store t x z) (hx : opnd σ.F x = some (.o (.e id 5 ix off))) (hz : opnd σ.F z = some (.o (.c (.int .i64 i)))) (hH : σ.H id = some (Hole e t' xs ix u)) (hy : xs[ix]? = some y) (hset : saveSet y off i = some y')
    (h : LX P X ops l (σ.app o.dst ⟨.o (.c undef), [(id, some (Hole e t' (xs.set ix y') ix u))], []⟩) (fun C => K ((⟨lg ++ (look x (.o (.e id 5 ix off)) ++ look z (.o (.c (.int .i64 i)))), [(id, Hole e t' xs ix u)]⟩, ⟨.o (.c undef), [(id, some (Hole e t' (xs.set ix y') ix u))], []⟩) :: C))) : LX P X ops (o :: l) σ K :=
  Lx.run (h := h) (e := ⟨.o (.c undef), [(id, some (Hole e t' (xs.set ix y') ix u))], []⟩) hgo.1 hgo.2 (mem_app (look_fits hx) (look_fits hz)) (one_mem hH) no_mem (fun σ1 hn1 h2 h4 h3 μ ω a w hs1 K Q hK => by
    have hH1 : σ1.H id = some (Hole e t' xs ix u) := h4 _ List.mem_cons_self
    obtain ⟨v, hv, hP⟩ := hs1.obj id _ hH1
    have hP' : HoleP e t' xs ix u w v (ω id) := hP
    obtain ⟨g, cap, cur, rfl, hown, hb, hsz, hput⟩ := hole_put hP' hy hset
    have hcc := cells_con (hs1.ev (opnd_of hz (app_r h2))) (by rfl)
    have hcells : (a.eval z).cells.toList = [.int .i64 i] := conL_eq (cs := [.int .i64 i]) hcc.1
    have hsize : (a.eval z).cells.size = 1 := by rw [← Array.length_toList, hcells]; rfl
    obtain ⟨A, m, c, hm, hp⟩ := hs1.ev (opnd_of hx (app_l h2))
    rw [hv] at hm
    cases hm
    rw [add_plain] at hp
    simp only [Nat.zero_add] at hp
    obtain ⟨w', hr, hk', hb'⟩ := run_storeAt (P := P) (off := ix * 5 + off) ht.s hsize hcc.2 hb hsz
    rw [hcells] at hb'
    have hrun : (execOp a.eval o).run P w = .ok .skip w' := by
      unfold execOp
      simp [ho, hp, hr]
    unfold Oper.wp
    rw [hrun]
    exact hK _ _ _ _ ((hs1.set (id := id) (o1 := Hole e t' (xs.set ix y') ix u) hH1 hv (hk'.mono (fun k hk => by rw [hk]; exact hown)) (hput w' hk' hb')).put (av := .o (.c undef)) (dstOk_spec (hn1 ▸ hd)) rfl))
/-- The place of the element whose row is lent. -/
theorem x_indexH {t t' e n by_ : Nat} {z : Value} [hs : TSlice P t t'] [he : TElem P t' n by_ z] {x y : Operand} {id ix : Nat} {xs : List Save} {u : Value} {k : IntKind} {i : Int} (ho : o.op = .indexAddr t x y) (hx : opnd σ.F x = some (.o (.i id))) (hy : opnd σ.F y = some (.o (.c (.int k i)))) (hH : σ.H id = some (Hole e t' xs ix u)) (hn : n = 5) (hi : i = (ix : Int)) (hlt : ix < xs.length)
    (h : LX P X ops l (σ.app o.dst ⟨.o (.e id 5 ix 0), [], []⟩) (fun C => K ((⟨lg ++ (look x (.o (.i id)) ++ look y (.o (.c (.int k i)))), [(id, Hole e t' xs ix u)]⟩, ⟨.o (.e id 5 ix 0), [], []⟩) :: C))) : LX P X ops (o :: l) σ K :=
  Lx.val (h := h) hgo.1 hgo.2 hd (mem_app (look_fits hx) (look_fits hy)) (one_mem hH) (fun σ1 h1 h2 μ ω a w hs1 => by
    subst hn
    have hH1 : σ1.H id = some (Hole e t' xs ix u) := h2 _ List.mem_cons_self
    obtain ⟨v, hv, hP⟩ := hs1.obj id _ hH1
    obtain ⟨ys, yc, hR, hyc, hu, hyl, _⟩ := (show HoleP e t' xs ix u w v (ω id) from hP)
    obtain ⟨A, c, rfl, hl, hC⟩ := Kd.R_reads hR
    obtain ⟨ad, hA, hcells⟩ := hC.2.2 (by have := hC.1; omega)
    subst hA
    have e1 : μ id = some (a.eval x) := (hs1.ev (opnd_of hx (app_l h1))).1
    have e2 := hs1.val (opnd_of hy (app_r h1))
    rw [hv] at e1
    injection e1 with e1
    obtain ⟨hu2, hsz⟩ := sliceT_parts (sliceT_of (P := P) (t := t) (e := t') (n := 5) (z := z) (by_ := by_))
    obtain ⟨cs, hlen, _, hcell⟩ := hcells ix yc hyc
    have hlen5 : cs.length = 5 := hlen
    have hc0 : w.cell? (ad.add (ix * 5)) = some (cs[0]'(by omega)) := hcell 0 _ (List.getElem?_eq_getElem (by omega))
    refine ⟨.pointer (some (ad.add (ix * 5))), ?_, ad, ys.length, c, hv, ?_⟩
    · unfold execOp
      simp only [ho, ← e1, e2, hi]
      simp [Instr.indexAt, asIntOf, run_underlying hu2, run_size hsz, hyl, hlt]
    · rw [Nat.add_zero, ← spot_of_cell hc0])
/-- The row that is lent. -/
theorem x_loadH {t t' e : Nat} [ht : TPlain P t] {x : Operand} {id ix nid : Nat} {xs : List Save} {u : Value} {own : Nat → Prop} (hA : (nid, u, own) ∈ X.A) (ho : o.op = .load t x) (hx : opnd σ.F x = some (.o (.e id 5 ix 1))) (hH : σ.H id = some (Hole e t' xs ix u))
    (h : LX P X ops l (σ.app o.dst ⟨.o (.i nid), [], []⟩) (fun C => K ((⟨lg ++ look x (.o (.e id 5 ix 1)), [(id, Hole e t' xs ix u)]⟩, ⟨.o (.i nid), [], []⟩) :: C))) : LX P X ops (o :: l) σ K :=
  Lx.val (h := h) hgo.1 hgo.2 hd (look_fits hx) (one_mem hH) (fun σ1 h1 h2 μ ω a w hs1 => by
    have hH1 : σ1.H id = some (Hole e t' xs ix u) := h2 _ List.mem_cons_self
    obtain ⟨v, hv, hP⟩ := hs1.obj id _ hH1
    obtain ⟨ys, yc, hR, hyc, hu, _⟩ := (show HoleP e t' xs ix u w v (ω id) from hP)
    obtain ⟨A, c, rfl, hl, hC⟩ := Kd.R_reads hR
    obtain ⟨ad, rfl, hcell⟩ := row_cells hC kSaveC_flat hyc
    obtain ⟨A', n', c', hm', hv'⟩ := hs1.ev (opnd_of hx h1)
    rw [hv] at hm'
    cases hm'
    have hmu : μ nid = some u := (hs1.anc _ hA).1
    refine ⟨u, ?_, hmu, by rw [← hu]; rfl⟩
    have hc1 : w.cell? (ad.add (ix * 5 + 1)) = some yc.v := hcell 1 _ rfl
    unfold execOp
    simp only [ho, hv']
    rw [← hu]
    simp [load_one ht.h (cell_off hc1)])
end
def LendQ (e t ix nid id : Nat) (u : Value) (Q : Post) : Post := fun ex σ2 => ∃ ys y2, ex = .normal ∧ σ2.H id = some (Hole e t ys ix u) ∧ ys[ix]? = some y2 ∧ ∃ l, σ2.H nid = some (.row kAgg e l) ∧ Q .normal { σ2 with H := upd (upd σ2.H id (some (.row (kSave e) t (ys.set ix { y2 with aggs := l })))) nid none }
theorem lend_end {e t ix nid id : Nat} {u : Value} {Q : Post} {σ2 : St} {ys : List Save} {y2 : Save} {l : List Agg} (h1 : σ2.H id = some (Hole e t ys ix u)) (h2 : σ2.H nid = some (.row kAgg e l)) (h3 : ys[ix]? = some y2) (h : Q .normal { σ2 with H := upd (upd σ2.H id (some (.row (kSave e) t (ys.set ix { y2 with aggs := l })))) nid none }) : LendQ e t ix nid id u Q .normal σ2 := ⟨ys, y2, rfl, h1, h3, l, h2, h⟩
/-- An element's row is lent: what is done is told over another context. -/
theorem ax_lend {e t ix nid id : Nat} {xs : List Save} {y : Save} (hH : σ.H id = some (.row (kSave e) t xs)) (hy : xs[ix]? = some y) (hid : σ.D nid = false) (hA : ∀ q ∈ X.A, q.1 = id)
    (h : ∀ u v (oh oi : Nat → Prop), AX P ⟨X.w0, X.S, [(id, v, oh), (nid, u, oi)]⟩ cd { σ with H := upd (upd σ.H id (some (Hole e t xs ix u))) nid (some (.row kAgg e y.aggs)), D := upd σ.D nid true } (LendQ e t ix nid id u Q)) : AX P X cd σ Q := fun μ ω a w hs => by
  obtain ⟨v, hv, B, hS⟩ := hs.obj id _ hH
  obtain ⟨f, ys, hR, hI⟩ := save_open hS
  obtain ⟨yc, hyc⟩ : ∃ y, ys[ix]? = some y := elt (by rw [hI.1]; exact (List.getElem?_eq_some_iff.1 hy).1)
  have hin := hI.2 ix yc y hyc hy
  have h0 := hs.made nid hid
  have hne : id ≠ nid := fun e => by rw [e, h0] at hv; cases hv
  have hown := hs.own id _ hH
  -- the element's blocks, and the others
  let oi : Nat → Prop := fun k => (ω id k ∧ some k ≠ v.ownBlock) ∧ f k = ix
  let oh : Nat → Prop := fun k => ω id k ∧ ¬ oi k
  have hoi : ∀ k, oi k → ω id k := fun k hk => hk.1.1
  have hhole : HoleP e t xs ix yc.v w v oh := by
    refine ⟨ys, yc, ?_, hyc, rfl, hI.1, fun z hz => ?_, f, fun j z x hj hz hx => ?_⟩
    · have hflat : kSaveC.R t w 0 (fun k => some k = v.ownBlock) v ys := Kd.R_tight rfl hR
      exact Kd.R_mono hflat (fun k hk => ⟨hR.1 k hk.symm, fun h2 => h2.1.2 hk⟩)
    · rw [hy] at hz; cases hz; exact ⟨hin.1, hin.2.1, hin.2.2.1, hin.2.2.2.1⟩
    · refine (hI.2 j z x hz hx).step (fun _ _ _ => rfl) (fun k hk _ => ⟨⟨⟨hk.1.1, fun h2 => hj (hk.2.symm.trans h2.2)⟩, hk.1.2⟩, hk.2⟩)
  have hle : Le μ (upd μ nid (some yc.v)) := Up_upd h0
  have hs2 : Sat ⟨X.w0, X.S, [(id, v, oh), (nid, yc.v, oi)]⟩ { σ with H := upd (upd σ.H id (some (Hole e t xs ix yc.v))) nid (some (.row kAgg e y.aggs)), D := upd σ.D nid true } (upd μ nid (some yc.v)) (upd (upd ω id oh) nid oi) a w := by
    have key : ∀ j oj, upd (upd σ.H id (some (Hole e t xs ix yc.v))) nid (some (.row kAgg e y.aggs)) j = some oj → (j = nid ∧ oj = .row kAgg e y.aggs) ∨ (j = id ∧ oj = Hole e t xs ix yc.v) ∨ (j ≠ nid ∧ j ≠ id ∧ σ.H j = some oj) := fun j oj hj => by
      by_cases e1 : j = nid
      · subst e1; rw [upd_same] at hj; cases hj; exact .inl ⟨rfl, rfl⟩
      rw [upd_ne _ e1] at hj
      by_cases e2 : j = id
      · subst e2; rw [upd_same] at hj; cases hj; exact .inr (.inl ⟨rfl, rfl⟩)
      rw [upd_ne _ e2] at hj
      exact .inr (.inr ⟨e1, e2, hj⟩)
    have wn : upd (upd ω id oh) nid oi nid = oi := upd_same _ _ _
    have wi : upd (upd ω id oh) nid oi id = oh := by rw [upd_ne _ hne, upd_same]
    have wo : ∀ j, j ≠ nid → j ≠ id → upd (upd ω id oh) nid oi j = ω j := fun j h1 h2 => by rw [upd_ne _ h1, upd_ne _ h2]
    refine ⟨hs.kept, hs.size, hs.defers, fun s av hs' => ?_, fun j hj => ?_, fun j oj hj => ?_, fun j oj hj k hk => ?_, fun i j oi' oj hi hj hij k hki hkj => ?_, fun q hq => ?_⟩
    · obtain ⟨u, hu, hc⟩ := hs.slot s av hs'
      exact ⟨u, hu, AV.con_mono hle hc⟩
    · by_cases e1 : j = nid
      · subst e1; simp [upd_same] at hj
      · rw [upd_ne _ e1]; exact hs.made j (by simpa [upd_ne _ e1] using hj)
    · rcases key j oj hj with ⟨rfl, rfl⟩ | ⟨rfl, rfl⟩ | ⟨e1, e2, hj⟩
      · exact ⟨yc.v, upd_same _ _ _, by rw [wn]; exact ⟨0, S_flat flat_flat hin.2.2.2.2⟩⟩
      · exact ⟨v, hle _ _ hv, by rw [wi]; exact hhole⟩
      · obtain ⟨u, hu, hh⟩ := hs.obj j oj hj
        refine ⟨u, hle _ _ hu, ?_⟩
        rw [wo j e1 e2]
        exact AObj.holds_mono hle (AObj.holds_cx (Y := ⟨X.w0, X.S, [(id, v, oh), (nid, yc.v, oi)]⟩) (fun W hW => hW) hh)
    · rcases key j oj hj with ⟨rfl, rfl⟩ | ⟨rfl, rfl⟩ | ⟨e1, e2, hj⟩
      · rw [wn] at hk; exact hown k (hoi k hk)
      · rw [wi] at hk; exact hown k hk.1
      · rw [wo j e1 e2] at hk; exact hs.own j oj hj k hk
    · rcases key i oi' hi with ⟨rfl, rfl⟩ | ⟨rfl, rfl⟩ | ⟨e1, e2, hi'⟩
      · rw [wn] at hki
        rcases key j oj hj with ⟨rfl, rfl⟩ | ⟨rfl, rfl⟩ | ⟨e3, e4, hj⟩
        · exact hij rfl
        · rw [wi] at hkj; exact hkj.2 hki
        · rw [wo j e3 e4] at hkj; exact hs.sep id j _ _ hH hj (Ne.symm e4) k (hoi k hki) hkj
      · rw [wi] at hki
        rcases key j oj hj with ⟨rfl, rfl⟩ | ⟨rfl, rfl⟩ | ⟨e3, e4, hj⟩
        · rw [wn] at hkj; exact hki.2 hkj
        · exact hij rfl
        · rw [wo j e3 e4] at hkj; exact hs.sep i j _ _ hH hj (Ne.symm e4) k hki.1 hkj
      · rw [wo i e1 e2] at hki
        rcases key j oj hj with ⟨rfl, rfl⟩ | ⟨rfl, rfl⟩ | ⟨e3, e4, hj⟩
        · rw [wn] at hkj; exact hs.sep i id _ _ hi' hH e2 k hki (hoi k hkj)
        · rw [wi] at hkj; exact hs.sep i j _ _ hi' hH e2 k hki hkj.1
        · rw [wo j e3 e4] at hkj; exact hs.sep i j _ _ hi' hj hij k hki hkj
    · rcases List.mem_cons.1 hq with rfl | hq
      · exact ⟨hle _ _ hv, wi⟩
      · rw [List.mem_singleton] at hq
        subst hq
        exact ⟨upd_same _ _ _, wn⟩
  refine wp_mono (h yc.v v oh oi _ _ a w hs2) (fun ex a2 w2 hq => ?_)
  obtain ⟨μ2, ω2, σ2, hs3, zs, y2, rfl, hH2, hy2, l2, hN2, hQ⟩ := hq
  have a1 := hs3.anc (id, v, oh) (by simp)
  have a2' := hs3.anc (nid, yc.v, oi) (by simp)
  simp only at a1 a2'
  obtain ⟨v2, hv2, hP2⟩ := hs3.obj id _ hH2
  rw [a1.1] at hv2
  cases hv2
  obtain ⟨u2, hu2, B2, hS2⟩ := hs3.obj nid _ hN2
  rw [a2'.1] at hu2
  cases hu2
  rw [a2'.2] at hS2
  have hP3 : HoleP e t zs ix yc.v w2 v oh := by have := hP2; rw [a1.2] at this; exact this
  obtain ⟨cs, cc, hRc, hcc, hcu, hcl, hcf, f2, hIc⟩ := hP3
  have hR2 := Kd.R_lower (Kd.S_R hS2) (Nat.zero_le B2)
  have hsplit : ∀ k, ω id k ↔ oh k ∨ oi k := fun k => ⟨fun hk => by
    by_cases h2 : oi k
    · exact .inr h2
    · exact .inl ⟨hk, h2⟩, fun hk => hk.elim (fun h2 => h2.1) (hoi k)⟩
  have hnoi : ∀ k, v.ownBlock = some k → ¬ oi k := fun k hk h2 => h2.1.2 hk.symm
  have hnew : (kSave e).S t w2 0 (ω id) v (zs.set ix { y2 with aggs := l2 }) := by
    classical
    refine save_close (f := fun k => if oi k then ix else if f2 k = ix then ix + 1 else f2 k) (ys := cs) (Kd.R_mono hRc (fun k hk => hk.1)) ⟨by simp [hcl], fun j z x hz hx => ?_⟩
    rcases set_at hx with ⟨rfl, rfl⟩ | ⟨hj, hx⟩
    · rw [hcc] at hz
      cases hz
      have := hcf y2 hy2
      refine ⟨this.1, this.2.1, this.2.2.1, this.2.2.2, ?_⟩
      rw [hcu]
      exact Kd.R_mono hR2 (fun k hk => ⟨⟨hoi k hk, hk.1.2⟩, if_pos hk⟩)
    · refine (hIc j z x hj hz hx).step (fun _ _ _ => rfl) (fun k hk _ => ⟨⟨hk.1.1.1, hk.1.2⟩, ?_⟩)
      dsimp only
      rw [if_neg hk.1.1.2, if_neg (by rw [hk.2]; exact hj)]
      exact hk.2
  refine ⟨μ2, upd (upd ω2 id (ω id)) nid (fun _ => False), _, ?_, hQ⟩
  have key : ∀ j oj, upd (upd σ2.H id (some (.row (kSave e) t (zs.set ix { y2 with aggs := l2 })))) nid none j = some oj → (j = id ∧ oj = .row (kSave e) t (zs.set ix { y2 with aggs := l2 })) ∨ (j ≠ nid ∧ j ≠ id ∧ σ2.H j = some oj) := fun j oj hj => by
    by_cases e1 : j = nid
    · subst e1; rw [upd_same] at hj; cases hj
    rw [upd_ne _ e1] at hj
    by_cases e2 : j = id
    · subst e2; rw [upd_same] at hj; cases hj; exact .inl ⟨rfl, rfl⟩
    rw [upd_ne _ e2] at hj
    exact .inr ⟨e1, e2, hj⟩
  have wi : upd (upd ω2 id (ω id)) nid (fun _ => False) id = ω id := by rw [upd_ne _ hne, upd_same]
  have wo : ∀ j, j ≠ nid → j ≠ id → upd (upd ω2 id (ω id)) nid (fun _ => False) j = ω2 j := fun j h1 h2 => by rw [upd_ne _ h1, upd_ne _ h2]
  have hso : ∀ j oj, j ≠ nid → j ≠ id → σ2.H j = some oj → ∀ k, ω2 j k → ¬ ω id k := fun j oj h1 h2 hj k hk hk2 => by
    rcases (hsplit k).1 hk2 with h3 | h3
    · exact hs3.sep j id _ _ hj hH2 h2 k hk (by rw [a1.2]; exact h3)
    · exact hs3.sep j nid _ _ hj hN2 h1 k hk (by rw [a2'.2]; exact h3)
  refine ⟨hs3.kept, hs3.size, hs3.defers, hs3.slot, hs3.made, fun j oj hj => ?_, fun j oj hj k hk => ?_, fun i j oi' oj hi hj hij k hki hkj => ?_, fun q hq => ?_⟩
  · rcases key j oj hj with ⟨rfl, rfl⟩ | ⟨e1, e2, hj⟩
    · exact ⟨v, a1.1, by rw [wi]; exact ⟨0, hnew⟩⟩
    · obtain ⟨u, hu, hh⟩ := hs3.obj j oj hj
      refine ⟨u, hu, ?_⟩
      rw [wo j e1 e2]
      exact AObj.holds_cx (X := ⟨X.w0, X.S, [(id, v, oh), (nid, yc.v, oi)]⟩) (fun W hW => hW) hh
  · rcases key j oj hj with ⟨rfl, rfl⟩ | ⟨e1, e2, hj⟩
    · rw [wi] at hk
      rcases (hsplit k).1 hk with h3 | h3
      · exact hs3.own j _ hH2 k (by rw [a1.2]; exact h3)
      · exact hs3.own nid _ hN2 k (by rw [a2'.2]; exact h3)
    · rw [wo j e1 e2] at hk; exact hs3.own j oj hj k hk
  · rcases key i oi' hi with ⟨rfl, rfl⟩ | ⟨e1, e2, hi'⟩
    · rw [wi] at hki
      rcases key j oj hj with ⟨rfl, rfl⟩ | ⟨e3, e4, hj⟩
      · exact hij rfl
      · rw [wo j e3 e4] at hkj; exact hso j oj e3 e4 hj k hkj hki
    · rw [wo i e1 e2] at hki
      rcases key j oj hj with ⟨rfl, rfl⟩ | ⟨e3, e4, hj⟩
      · rw [wi] at hkj; exact hso i oi' e1 e2 hi' k hki hkj
      · rw [wo j e3 e4] at hkj; exact hs3.sep i j _ _ hi' hj hij k hki hkj
  · have hqi := hA q hq
    have hq0 := hs.anc q hq
    rw [hqi] at hq0 ⊢
    rw [hv] at hq0
    exact ⟨a1.1.trans hq0.1, wi.trans hq0.2⟩
end
end Go.Proofs.Ytengkenhmnpbeaa.C
