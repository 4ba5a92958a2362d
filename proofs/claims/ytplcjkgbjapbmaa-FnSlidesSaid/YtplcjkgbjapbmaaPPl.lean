import Derived.Test.YtplcjkgbjapbmaaUp
import Derived.Test.YtplcjkgbjapbmaaPMa
namespace Go.Proofs.Ytplcjkgbjapbmaa.C
open Go.RowKit Go.Proofs.YtplcjkgbjapbmaaW Go.Proofs.YtplcjkgbjapbmaaW.PrintWords Go.Proofs.Ytplcjkgbjapbmaa.U
set_option maxHeartbeats 1000000
set_option maxRecDepth 100000
set_option linter.unusedVariables false
set_option linter.unusedSimpArgs false
/-- Go's within. -/
def inB (n a b : Int) : Bool := decide (a ≤ n) && decide (n ≤ b)
theorem inB_iff {n a b : Int} : inB n a b = true ↔ a ≤ n ∧ n ≤ b := by unfold inB; simp
theorem inB_not {n a b : Int} : inB n a b = false ↔ ¬ (a ≤ n ∧ n ≤ b) := by rw [← Bool.not_eq_true, inB_iff]
def okAgg (a : Agg) : Bool := inB a.win 0 1000000 && (inB a.key 0 65535 && (inB a.count 1 1000000000 && (inB a.sum (-1000000000) 1000000000 && (inB a.min (-1000000) 1000000 && (inB a.max (-1000000) 1000000 && decide (a.min ≤ a.max))))))
def okFrame (f : Frame) : Bool :=
  if f.kind = 1 then inB f.key 0 65535 && (inB f.time 0 1000000 && inB f.value (-1000000) 1000000)
  else if f.kind = 2 then decide (f.key = 0) && (inB f.time 0 1000000 && decide (f.value = 0))
  else decide (f.kind = 3 ∧ f.key = 0 ∧ f.time = 0 ∧ f.value = 0)
def aggLt (a b : Agg) : Bool := decide (a.win < b.win ∨ a.win = b.win ∧ a.key < b.key)
/-- Every two neighbours stand in order. -/
def sortedB {α : Type} (lt : α → α → Bool) (l : List α) : Bool := match l with
  | [] => true
  | a :: r => match r with
    | [] => true
    | b :: _ => lt a b && sortedB lt r
def allSorted (lt : Agg → Agg → Bool) (l : List Agg) : Prop := ∀ i, i + 1 < l.length → lt (l.getD i default) (l.getD (i + 1) default) = true
def okShard (l : List Agg) (mark late over : Int) : Bool :=
  decide (l.length ≤ 40) && (inB mark (-1) 1000000 && (inB late 0 1000000000 && (inB over 0 1000000000 && (l.all okAgg && sortedB aggLt l))))
/-- A join that a call has made. -/
def JoinMade (t : Nat) (l l' : List Frame) (m : Int) (w : World) (e : Ending) (w' : World) : Prop :=
  ∃ A c A' c', e = .returned (.agg #[.slice A l.length c, .slice A' l'.length c', .int .i64 m]) ∧ kFrame.R t w' w.heap.size (fun _ => True) (.slice A l.length c) l ∧ kFrame.R t w' w.heap.size (fun _ => True) (.slice A' l'.length c') l' ∧ NeRow (.slice A l.length c) (.slice A' l'.length c') ∧ NeRow (.slice A' l'.length c') (.slice A l.length c) ∧ Below w.heap.size w w'
def okEv (f : Frame) : Bool := okFrame f && decide (f.kind = 1)
def okEvs (l : List Frame) : Bool := decide (l.length ≤ 40) && l.all okEv
def okJoin (l l' : List Frame) (m : Int) : Bool := okEvs l && (okEvs l' && inB m (-1) 1000000)
def meetB (a b : Frame) (c : Int) : Bool := decide (a.key = b.key) && decide ((if wrap64 (a.time - b.time) < 0 then wrap64 (- wrap64 (a.time - b.time)) else wrap64 (a.time - b.time)) ≤ c)
def pairB (x y : Frame) : Pair := ⟨x.key, x.time, y.time, x.value, y.value⟩
def pairOn (left : Bool) (f x : Frame) : Pair := if left then pairB f x else pairB x f
theorem Up.made {α : Type} {d : Kd α} {e b : Nat} {w : World} {ok : Nat → Prop} {v : Value} {xs : List α} (h : d.R e w b ok v xs) : Up w (fun k => k < b) (fun W => d.R e W b (fun k => b ≤ k) v xs) :=
  ⟨fun W hk => Kd.R_mono (Kd.R_kept (Kd.R_bound h) hk (fun k hk2 h3 => by have := hk2.2.1; omega)) (fun k hk2 => hk2.2.1)⟩
theorem Up.set {w : World} {S : Nat → Prop} {φ : World → Prop} (h : Up w S φ) {p : Addr} (hp : S p.block) (u : Value) : Up (w.setCell p u) S φ := h.kept ((Kept.refl w S).setCell (.inl hp) u) (fun _ h => h)
theorem Up.lt {w : World} {b c : Nat} {φ : World → Prop} (h : Up w (fun k => k < b) φ) (hc : c ≤ b) : Up w (fun k => k < c) φ := h.mono (fun k hk => by omega)
/-- The two rows lie in blocks of their own. -/
theorem ne_of_bases {α β : Type} {d : Kd α} {d' : Kd β} {e e' b b' : Nat} {w w' : World} {ok ok' : Nat → Prop} {v v' : Value} {xs : List α} {ys : List β} (h : d.R e w b ok v xs) (h' : d'.R e' w' b' ok' v' ys) {m : Nat} (hm : ∀ k, v.ownBlock = some k → k < m) (hb : m ≤ b') : NeRow v v' ∧ NeRow v' v :=
  ⟨fun k hk hk' => by have := hm k hk; have := Kd.R_base h' k hk'; omega, fun k hk' hk => by have := hm k hk; have := Kd.R_base h' k hk'; omega⟩
theorem Up.to {w w1 : World} {S : Nat → Prop} {φ : World → Prop} (h : Up w S φ) (k : Up w S φ → Up w1 S φ) : φ w1 := (k h).now
theorem cfar {w : World} {p q : Addr} {v : Value} (h : w.cell? q = some v) (hne : q.block ≠ p.block) (u : Value) : (w.setCell p u).cell? q = some v := by
  rw [World.cell?_setCell_far]
  · exact h
  · exact fun e => hne e.symm
theorem Up.via {w W w2 : World} {S : Nat → Prop} {φ : World → Prop} (hb : Below W.heap.size W w2) (h : Up w S φ) (k : Up w S φ → Up W S φ) : Up w2 S φ := (k h).below hb
theorem Up.at_ {w W : World} {S : Nat → Prop} {φ : World → Prop} (h : Up w S φ) (k : Up w S φ → Up W S φ) : Up W S φ := k h
theorem own_in {α : Type} {d : Kd α} {e b : Nat} {w : World} {ok : Nat → Prop} {v : Value} {xs : List α} (h : d.R e w b ok v xs) : ∀ k, v.ownBlock = some k → b ≤ k ∧ k < w.heap.size := fun k hk => ⟨Kd.R_base h k hk, Kd.R_lt h k hk⟩
/-- A row of flat elements lives as long as its own block is left alone. -/
theorem Up.own {α : Type} {n : Nat} {enc : α → List Value} {p1 : ∀ x, (enc x).length = n} {p2 : ∀ x, ∀ u ∈ enc x, u.oneCell' = true} {e b : Nat} {w : World} {ok : Nat → Prop} {v : Value} {xs : List α} (h : (flat n enc p1 p2).R e w b ok v xs) : Up w (fun k => v.ownBlock ≠ some k) (fun W => (flat n enc p1 p2).R e W b (fun k => v.ownBlock = some k) v xs) :=
  Up.ofR (d := flat n enc p1 p2) ⟨fun k hk => hk, h.2⟩ (fun k hk hn => hn hk)
theorem Up.grown {w w1 : World} {v v' : Value} {φ : World → Prop} (h : Up w (fun k => v.ownBlock ≠ some k) φ) (hg : w.grownBy w1 v'.ownBlock) (hn : NeRow v v') : Up w1 (fun k => v.ownBlock ≠ some k) φ :=
  h.kept (Kept.of_grown (S := fun k => v.ownBlock ≠ some k) hg (Kept.refl _ _) (fun k hk => .inl (fun e => hn k e hk))) (fun _ h => h)
theorem Up.grown' {w w1 : World} {g : Nat} {v' : Value} {φ : World → Prop} (h : Up w (fun k => k ≠ g) φ) (hg : w.grownBy w1 v'.ownBlock) (hn : v'.ownBlock ≠ some g) : Up w1 (fun k => k ≠ g) φ :=
  h.kept (Kept.of_grown (S := fun k => k ≠ g) hg (Kept.refl _ _) (fun k hk => .inl (fun e => hn (e ▸ hk)))) (fun _ h => h)
theorem Up.blk {w : World} {g : Nat} {o : Obj} (h : w.heap[g]? = some o) : Up w (fun k => k ≠ g) (fun W => W.heap[g]? = some o) := Up.ofBlk h (fun e => e rfl)
theorem new1 (w : World) (o p : Obj) : ((w.alloc o).alloc p).heap[w.heap.size + 1]? = some p := by simpa using blk_new (w.alloc o) p
theorem new2 (w : World) (o p q : Obj) : (((w.alloc o).alloc p).alloc q).heap[w.heap.size + 1 + 1]? = some q := by simpa using blk_new ((w.alloc o).alloc p) q
theorem R_nil {α : Type} (d : Kd α) (e : Nat) (w : World) {base : Nat} : d.R e w base (fun _ => True) (.slice none 0 0) [] := ⟨fun k hk => trivial, [], ⟨by simp, .inl ⟨rfl, rfl⟩⟩, Reps.none _ _⟩
theorem R_out {α : Type} {d : Kd α} {e b b' : Nat} {ok : Nat → Prop} {v : Value} {xs : List α} {w W : World} {S : Nat → Prop} (h : Up w S (fun W => d.R e W b ok v xs)) (k : Up w S (fun W => d.R e W b ok v xs) → Up W S (fun W => d.R e W b ok v xs)) (hb : b' ≤ b) : d.R e W b' (fun _ => True) v xs := Kd.R_mono (Kd.R_lower (k h).now hb) (fun _ _ => trivial)
theorem ne_grown {v v1 v' : Value} {W : World} (h : NeRow v v') (hat : v1.ownBlock = v.ownBlock ∨ ∃ b, v1.ownBlock = some b ∧ W.heap.size ≤ b) (hlt : ∀ k, v'.ownBlock = some k → k < W.heap.size) : NeRow v1 v' := fun k hk hk' => by
  rcases hat with e | ⟨b, e, hb⟩
  · exact h k (e ▸ hk) hk'
  · rw [e] at hk
    cases hk
    have := hlt k hk'
    omega
/-- Where a row stands that an append has grown. -/
theorem grown_at {v v1 : Value} {W : World} {a b : Nat} (hat : v1.ownBlock = v.ownBlock ∨ ∃ b, v1.ownBlock = some b ∧ W.heap.size ≤ b) (hv : ∀ k, v.ownBlock = some k → a ≤ k ∧ k < b) : ∀ k, v1.ownBlock = some k → (a ≤ k ∧ k < b) ∨ W.heap.size ≤ k := fun k hk => by
  rcases hat with e | ⟨b, e, hb⟩
  · exact .inl (hv k (e ▸ hk))
  · rw [e] at hk
    cases hk
    exact .inr hb
theorem take_snoc {α : Type} {l : List α} {k : Nat} {x : α} (h : l[k]? = some x) : l.take k ++ [x] = l.take (k + 1) := by
  obtain ⟨hl, rfl⟩ := List.getElem?_eq_some_iff.1 h
  rw [List.take_succ_eq_append_getElem hl]
/-- An empty slice literal. -/
theorem R_empty {α : Type} (d : Kd α) (e : Nat) (w : World) {base : Nat} {ok : Nat → Prop} (hb : base ≤ w.heap.size) (hok : ok w.heap.size) : d.R e (w.alloc (.cells #[] e)) base ok (.slice (some ⟨w.heap.size, 0, none⟩) 0 0) [] :=
  ⟨fun k hk => by cases hk; exact hok, [], ⟨by simp, .inr ⟨w.heap.size, 0, #[], rfl, hb, blk_new _ _, Nat.le_refl _, by simp [maxLen], by simp, by simp⟩⟩, Reps.none _ _⟩
def addCode (l l' : List Frame) (m c : Int) (left : Bool) (f : Frame) : Int :=
  if (okJoin l l' m && (okEv f && inB c 0 1000000)) = false then 3 else if f.time ≤ m then 1 else if (if left then l else l').length = 40 then 2 else 0
def addL (l l' : List Frame) (m c : Int) (left : Bool) (f : Frame) : List Frame := if addCode l l' m c left f = 0 ∧ left = true then l ++ [f] else l
def addR (l l' : List Frame) (m c : Int) (left : Bool) (f : Frame) : List Frame := if addCode l l' m c left f = 0 ∧ left = false then l' ++ [f] else l'
def pairsOf (o : List Frame) (c : Int) (left : Bool) (f : Frame) : List Pair := (o.filter (fun x => meetB f x c)).map (pairOn left f)
def addPs (l l' : List Frame) (m c : Int) (left : Bool) (f : Frame) : List Pair := if addCode l l' m c left f = 0 then pairsOf (if left then l' else l) c left f else []
theorem pairs_hit {o : List Frame} {c : Int} {left : Bool} {f x : Frame} {k : Nat} (hx : o[k]? = some x) (h : meetB f x c = true) : pairsOf (o.take k) c left f ++ [pairOn left f x] = pairsOf (o.take (k + 1)) c left f := by
  rw [← take_snoc hx, pairsOf, pairsOf, List.filter_append, List.map_append]
  simp [h]
theorem pairs_miss {o : List Frame} {c : Int} {left : Bool} {f x : Frame} {k : Nat} (hx : o[k]? = some x) (h : meetB f x c = false) : pairsOf (o.take k) c left f = pairsOf (o.take (k + 1)) c left f := by
  rw [← take_snoc hx, pairsOf, pairsOf, List.filter_append, List.map_append]
  simp [h]
theorem pairs_le {o : List Frame} {c : Int} {left : Bool} {f : Frame} {k n : Nat} (h : o.length ≤ n) : (pairsOf (o.take k) c left f).length ≤ n := by
  rw [pairsOf, List.length_map]
  exact Nat.le_trans (List.length_filter_le _ _) (Nat.le_trans (List.length_take_le' _ _) h)
/-- A join, pairs and a number that a call has made. -/
def AddMade (t t' : Nat) (l l' : List Frame) (m : Int) (ps : List Pair) (n : Int) (w : World) (e : Ending) (w' : World) : Prop :=
  ∃ A c A' c' P cp, e = .returned (.tuple #[.agg #[.slice A l.length c, .slice A' l'.length c', .int .i64 m], .slice P ps.length cp, .int .i64 n]) ∧ kFrame.R t w' w.heap.size (fun _ => True) (.slice A l.length c) l ∧ kFrame.R t w' w.heap.size (fun _ => True) (.slice A' l'.length c') l' ∧ kPair.R t' w' w.heap.size (fun _ => True) (.slice P ps.length cp) ps ∧
    (NeRow (.slice A l.length c) (.slice A' l'.length c') ∧ NeRow (.slice A l.length c) (.slice P ps.length cp) ∧ NeRow (.slice A' l'.length c') (.slice P ps.length cp)) ∧ Below w.heap.size w w'
/-! A region that draws its order, all of whose operations tell the same in every world that keeps the old blocks: walked once, in the text's order. -/
section
variable {P : Program} {ops : Array Oper} {C : World → Prop} {Q : Act → Prop} {o : Oper} {rest : List Oper} {a : Act}
theorem wq_off (g : Nat × Bool) (hg : o.guard = some g) (hw : Region.wanted o (yielded ops a.tmps) = false) (h : wpQuiet P ops C Q rest (a.put o.dst undef)) : wpQuiet P ops C Q (o :: rest) a := by
  unfold wpQuiet
  rw [if_neg (by rw [hw]; simp)]
  exact h
theorem wq_val (hw : Region.wanted o (yielded ops a.tmps) = true) (hh : ∃ v, (∀ W, C W → (execOp a.eval o).run P W = .ok (.value v) W) ∧ wpQuiet P ops C Q rest (a.put o.dst v)) : wpQuiet P ops C Q (o :: rest) a := by
  obtain ⟨v, hr, h⟩ := hh
  unfold wpQuiet
  rw [if_pos hw]
  refine ⟨v, fun W hW => ?_, h⟩
  unfold Oper.quietAt
  rw [hr W hW]
  exact ⟨rfl, rfl⟩
theorem wq_gate {f : FuncId} {xs : Array Operand} {ts : Array TypeId} (_hop : o.op = .call { callee := .value (.func f), args := xs, argTypes := ts }) (h : wpQuiet P ops C Q (o :: rest) a) : wpQuiet P ops C Q (o :: rest) a := h
theorem wq_call {f : FuncId} {fn : Func} {xs : Array Operand} {ts : Array TypeId} {args : Array Value} {v : Value} (hc : ∀ W, C W → Calls P f args W fun e w' => e = .returned v ∧ C w')
    (hw : Region.wanted o (yielded ops a.tmps) = true) (hf : P.funcs[f]? = some fn) (hname : (fn.name == "runtime.NumGoroutine") = false) (hb : fn.body.isSome = true)
    (hop : o.op = .call { callee := .value (.func f), args := xs, argTypes := ts }) (hargs : xs.map a.eval = args)
    (h : wpQuiet P ops C Q rest (a.put o.dst v)) : wpQuiet P ops C Q (o :: rest) a := by
  unfold wpQuiet
  rw [if_pos hw]
  refine ⟨v, fun W hW => ?_, h⟩
  have he := PrintLast.enters_ hf hname hb args W
  have hrun : (execOp a.eval o).run P W = .ok (.enter f args) W := by
    unfold execOp
    simp [hop, resolve, Deferred.ofValue, invoke, Act.eval, hargs, he]
  unfold Oper.quietAt
  rw [hrun]
  exact ⟨rfl, hc W hW⟩
end
theorem wr_quiet {P : Program} {id : Nat} {Q : Exit → Act → World → Prop} {a : Act} {w : World} {l : List Oper} (hm : P.follows .mixedOrders = true) (hB : Region.lexB .any l.toArray = true)
    (h : wpQuiet P l.toArray (fun W => Below w.heap.size w W) (fun a' => ∀ w', Below w.heap.size w w' → Q .normal a' w') l a) : (Code.region id l.toArray true).wp P Q a w :=
  wp_region_quiet (C := fun W => Below w.heap.size w W) hm hB (below_drew (Below.refl _ _)) (by simpa using h)
def idxB {α : Type} (p : α → Bool) (l : List α) : Int := match l.findIdx? p with | some i => (i : Int) | none => -1
def noneTo {α : Type} (p : α → Bool) (l : List α) (k : Nat) : Prop := ∀ i, i < k → ∀ x, l[i]? = some x → p x = false
theorem noneTo_zero {α : Type} (p : α → Bool) (l : List α) : noneTo p l 0 := fun i h => by omega
theorem noneTo_succ {α : Type} {p : α → Bool} {l : List α} {k : Nat} {x : α} (h : noneTo p l k) (hx : l[k]? = some x) (hp : p x = false) : noneTo p l (k + 1) := fun i hi y hy => by
  rcases Nat.lt_or_ge i k with h1 | h1
  · exact h i h1 y hy
  · obtain rfl : i = k := by omega
    rw [hx] at hy
    cases hy
    exact hp
theorem idxB_hit {α : Type} {p : α → Bool} {l : List α} {k : Nat} {x : α} (h : noneTo p l k) (hx : l[k]? = some x) (hp : p x = true) : idxB p l = (k : Int) := by
  obtain ⟨hk, rfl⟩ := List.getElem?_eq_some_iff.1 hx
  have : l.findIdx? p = some k := List.findIdx?_eq_some_iff_getElem.2 ⟨hk, hp, fun j hj => by rw [h j hj _ (List.getElem?_eq_getElem (by omega))]; decide⟩
  rw [idxB, this]
theorem idxB_none {α : Type} {p : α → Bool} {l : List α} (h : noneTo p l l.length) : idxB p l = -1 := by
  have : l.findIdx? p = none := List.findIdx?_eq_none_iff.2 (fun x hx => by obtain ⟨i, hi, rfl⟩ := List.mem_iff_getElem.1 hx; exact h i hi _ (List.getElem?_eq_getElem hi))
  rw [idxB, this]
theorem idxB_any {α : Type} (p : α → Bool) (l : List α) : decide (0 ≤ idxB p l) = l.any p := by
  rw [idxB]
  cases h : l.findIdx? p with
  | none =>
    rw [List.findIdx?_eq_none_iff] at h
    simp only [Int.reduceNeg, Int.reduceLE, decide_false]
    exact (List.any_eq_false.2 (fun x hx => by simp [h x hx])).symm
  | some i =>
    obtain ⟨hi, hp, _⟩ := List.findIdx?_eq_some_iff_getElem.1 h
    have : l.any p = true := List.any_eq_true.2 ⟨_, List.getElem_mem hi, hp⟩
    simp [this]
theorem idxB_not {α : Type} (p : α → Bool) (l : List α) : l.any (fun x => !p x) = !l.all p := by
  induction l with
  | nil => rfl
  | cons a r ih => rw [List.any_cons, List.all_cons, ih, Bool.not_and]
theorem infoFrame : (Try.prog.info? 31).map (fun i => (i.zero, i.size, i.bytes)) = some (some (.agg #[(.int .i64 0), (.int .i64 0), (.int .i64 0), (.int .i64 0)]), 4, 32) := by kernel_rfl
theorem infoAgg : (Try.prog.info? 55).map (fun i => (i.zero, i.size, i.bytes)) = some (some (.agg #[(.int .i64 0), (.int .i64 0), (.int .i64 0), (.int .i64 0), (.int .i64 0), (.int .i64 0)]), 6, 48) := by kernel_rfl
/-- The first k are right, and stand in order. -/
def goodTo (l : List Agg) (k : Nat) : Prop := ∀ j x, j < k → l[j]? = some x → okAgg x = true ∧ (∀ i y, j = i + 1 → l[i]? = some y → aggLt y x = true)
theorem goodTo_zero (l : List Agg) : goodTo l 0 := fun j _ h => absurd h (Nat.not_lt_zero j)
theorem goodTo_succ {l : List Agg} {k : Nat} {x : Agg} (h : goodTo l k) (hx : l[k]? = some x) (h1 : okAgg x = true) (h2 : ∀ i y, k = i + 1 → l[i]? = some y → aggLt y x = true) : goodTo l (k + 1) := fun j z hj hz => by
  rcases Nat.lt_succ_iff_lt_or_eq.1 hj with h3 | rfl
  · exact h j z h3 hz
  · rw [hx] at hz; cases hz; exact ⟨h1, h2⟩
theorem sortedB_cons2 {α : Type} (lt : α → α → Bool) (a b : α) (r : List α) : sortedB lt (a :: b :: r) = (lt a b && sortedB lt (b :: r)) := rfl
theorem sortedB_iff {α : Type} (lt : α → α → Bool) : ∀ (l : List α), sortedB lt l = true ↔ ∀ i x y, l[i]? = some x → l[i + 1]? = some y → lt x y = true
  | [] => by simp [sortedB]
  | [a] => by simp [sortedB]
  | a :: b :: r => by
    rw [sortedB_cons2, Bool.and_eq_true, sortedB_iff lt (b :: r)]
    constructor
    · rintro ⟨h1, h2⟩ i x y hx hy
      cases i with
      | zero => simp at hx hy; subst hx; subst hy; exact h1
      | succ i => exact h2 i x y (by simpa using hx) (by simpa using hy)
    · intro h
      exact ⟨h 0 a b rfl rfl, fun i x y hx hy => h (i + 1) x y (by simpa using hx) (by simpa using hy)⟩
theorem goodTo_all {l : List Agg} : goodTo l l.length ↔ (l.all okAgg && sortedB aggLt l) = true := by
  rw [Bool.and_eq_true, List.all_eq_true, sortedB_iff]
  constructor
  · intro h
    refine ⟨fun x hx => ?_, fun i x y hx hy => (h (i + 1) y (el_lt hy) hy).2 i x rfl hx⟩
    obtain ⟨j, hj, rfl⟩ := List.getElem_of_mem hx
    exact (h j _ hj (List.getElem?_eq_getElem hj)).1
  · rintro ⟨h1, h2⟩ j x hj hx
    refine ⟨h1 _ (List.mem_of_getElem? hx), fun i y hi hy => ?_⟩
    subst hi
    exact h2 i y x hy hx
theorem not_good {l : List Agg} {k : Nat} (hk : k < l.length) (h : ¬ goodTo l (k + 1)) : (l.all okAgg && sortedB aggLt l) = false := by
  rw [← Bool.not_eq_true, ← goodTo_all]
  exact fun h2 => h (fun j x hj => h2 j x (by omega))
theorem not_good_ok {l : List Agg} {k : Nat} {x : Agg} (hx : l[k]? = some x) (h : okAgg x = false) : (l.all okAgg && sortedB aggLt l) = false :=
  not_good (el_lt hx) (fun h2 => by rw [(h2 k x (by omega) hx).1] at h; cases h)
theorem not_good_lt {l : List Agg} {i : Nat} {x y : Agg} (hx : l[i + 1]? = some x) (hy : l[i]? = some y) (h : aggLt y x = false) : (l.all okAgg && sortedB aggLt l) = false :=
  not_good (el_lt hx) (fun h2 => by rw [(h2 (i + 1) x (by omega) hx).2 i y rfl hy] at h; cases h)
/-- What is left of a bound when so many are taken off; -1 if it does not do. -/
def szv (left : Int) (n : Nat) : Int := if left - n < 0 then -1 else left - n
theorem szv_neg {left : Int} {n : Nat} (h : left - n < 0) : szv left n = -1 := if_pos h
theorem szv_pos {left : Int} {n : Nat} (h : ¬ left - n < 0) : szv left n = left - n := if_neg h
def keepT (m c : Int) (f : Frame) : Bool := decide (m + 1 - c ≤ f.time)
def rjOk (l l' : List Frame) (m c mk : Int) : Bool := okJoin l l' m && (inB mk (-1) 1000000 && inB c 0 1000000)
def rjM (l l' : List Frame) (m c mk : Int) : Int := if rjOk l l' m c mk = true then max m mk else m
def rjL (l l' : List Frame) (m c mk : Int) : List Frame := if rjOk l l' m c mk = true then l.filter (keepT (max m mk) c) else l
def rjR (l l' : List Frame) (m c mk : Int) : List Frame := if rjOk l l' m c mk = true then l'.filter (keepT (max m mk) c) else l'
def rjN (l l' : List Frame) (m c mk : Int) : Int := if rjOk l l' m c mk = true then (l.length : Int) + l'.length - (l.filter (keepT (max m mk) c)).length - (l'.filter (keepT (max m mk) c)).length else -1
theorem filt_hit {α : Type} {p : α → Bool} {o : List α} {x : α} {k : Nat} (hx : o[k]? = some x) (h : p x = true) : (o.take k).filter p ++ [x] = (o.take (k + 1)).filter p := by
  rw [← take_snoc hx, List.filter_append]
  simp [h]
theorem filt_miss {α : Type} {p : α → Bool} {o : List α} {x : α} {k : Nat} (hx : o[k]? = some x) (h : p x = false) : (o.take k).filter p = (o.take (k + 1)).filter p := by
  rw [← take_snoc hx, List.filter_append]
  simp [h]
theorem filt_le {α : Type} {p : α → Bool} {o : List α} {k : Nat} : ((o.take k).filter p).length ≤ k := Nat.le_trans (List.length_filter_le _ _) (List.length_take_le _ _)
theorem okJoin_mark {l l' : List Frame} {m : Int} (h : okJoin l l' m = true) : -1 ≤ m ∧ m ≤ 1000000 := by
  unfold okJoin at h
  simp only [Bool.and_eq_true] at h
  first | exact inB_iff.1 h.2 | exact inB_iff.1 h.2.2
structure PJ where
  L : List Frame
  R : List Frame
  m : Int
  P : List Pair
  C : List Int
def pjOne (c : Int) (f : Frame) (s : Bool) (t : PJ) : PJ :=
  if f.kind = 2 ∧ okFrame f = true then ⟨rjL t.L t.R t.m c f.time, rjR t.L t.R t.m c f.time, rjM t.L t.R t.m c f.time, t.P, t.C ++ [if 0 ≤ rjN t.L t.R t.m c f.time then 0 else 3]⟩
  else ⟨addL t.L t.R t.m c s f, addR t.L t.R t.m c s f, t.m, t.P ++ addPs t.L t.R t.m c s f, t.C ++ [addCode t.L t.R t.m c s f]⟩
def pj (c : Int) (list : List Frame) (sides : List Bool) : Nat → PJ
  | 0 => ⟨[], [], -1, [], []⟩
  | k + 1 => match list[k]?, sides[k]? with
    | some f, some s => pjOne c f s (pj c list sides k)
    | _, _ => pj c list sides k
theorem pj_succ {c : Int} {list : List Frame} {sides : List Bool} {k : Nat} {f : Frame} {s : Bool} (hf : list[k]? = some f) (hs : sides[k]? = some s) : pj c list sides (k + 1) = pjOne c f s (pj c list sides k) := by rw [pj, hf, hs]
theorem addL_le' {l l' : List Frame} {m c : Int} {left : Bool} {f : Frame} : (addL l l' m c left f).length ≤ l.length + 1 := by rw [addL]; split <;> simp
theorem addR_le' {l l' : List Frame} {m c : Int} {left : Bool} {f : Frame} : (addR l l' m c left f).length ≤ l'.length + 1 := by rw [addR]; split <;> simp
theorem addPs_le' {l l' : List Frame} {m c : Int} {left : Bool} {f : Frame} : (addPs l l' m c left f).length ≤ l.length + l'.length := by
  rw [addPs]
  split
  · cases left
    · simpa using Nat.le_trans (pairs_le (k := l.length) (c := c) (left := false) (f := f) (Nat.le_refl l.length) |> fun h => by simpa using h) (Nat.le_add_right l.length l'.length)
    · simpa using Nat.le_trans (pairs_le (k := l'.length) (c := c) (left := true) (f := f) (Nat.le_refl l'.length) |> fun h => by simpa using h) (Nat.le_add_left l'.length l.length)
  · simp
theorem rjL_le {l l' : List Frame} {m c mk : Int} : (rjL l l' m c mk).length ≤ l.length := by rw [rjL]; split; exact List.length_filter_le _ _; exact Nat.le_refl _
theorem rjR_le {l l' : List Frame} {m c mk : Int} : (rjR l l' m c mk).length ≤ l'.length := by rw [rjR]; split; exact List.length_filter_le _ _; exact Nat.le_refl _
theorem pj_le (c : Int) (list : List Frame) (sides : List Bool) : ∀ k, k ≤ 80 → (pj c list sides k).L.length ≤ k ∧ (pj c list sides k).R.length ≤ k ∧ (pj c list sides k).P.length ≤ 160 * k ∧ (pj c list sides k).C.length ≤ k
  | 0, _ => by simp [pj]
  | k + 1, hk => by
    have h := pj_le c list sides k (by omega)
    rw [pj]
    split
    · rename_i f s _ _
      rw [pjOne]
      split
      · have h1 := rjL_le (l := (pj c list sides k).L) (l' := (pj c list sides k).R) (m := (pj c list sides k).m) (c := c) (mk := f.time)
        have h2 := rjR_le (l := (pj c list sides k).L) (l' := (pj c list sides k).R) (m := (pj c list sides k).m) (c := c) (mk := f.time)
        refine ⟨?_, ?_, ?_, ?_⟩ <;> simp only [List.length_append, List.length_singleton] <;> omega
      · have h1 := addL_le' (l := (pj c list sides k).L) (l' := (pj c list sides k).R) (m := (pj c list sides k).m) (c := c) (left := s) (f := f)
        have h2 := addR_le' (l := (pj c list sides k).L) (l' := (pj c list sides k).R) (m := (pj c list sides k).m) (c := c) (left := s) (f := f)
        have h3 := addPs_le' (l := (pj c list sides k).L) (l' := (pj c list sides k).R) (m := (pj c list sides k).m) (c := c) (left := s) (f := f)
        refine ⟨?_, ?_, ?_, ?_⟩ <;> simp only [List.length_append, List.length_singleton] <;> omega
    · omega
/-- What PlayJoin is of. -/
def pjOk (list : List Frame) (sides : List Bool) : Bool := decide (list.length ≤ 80 ∧ sides.length = list.length)
def pjR (c : Int) (list : List Frame) (sides : List Bool) : PJ := if pjOk list sides = true then pj c list sides list.length else ⟨[], [], 0, [], []⟩
theorem pjR_le (c : Int) (list : List Frame) (sides : List Bool) : (pjR c list sides).L.length ≤ 80 ∧ (pjR c list sides).R.length ≤ 80 ∧ (pjR c list sides).P.length ≤ 12800 ∧ (pjR c list sides).C.length ≤ 80 := by
  rw [pjR]
  split
  · rename_i h
    have h : list.length ≤ 80 ∧ sides.length = list.length := by unfold pjOk at h; simpa using h
    have := pj_le c list sides list.length h.1
    omega
  · simp
end Go.Proofs.Ytplcjkgbjapbmaa.C
