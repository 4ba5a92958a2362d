/- Calls of function values that capture nothing: as the print's words for calls of functions. -/
import Derived.Test.YtkdndllgocdbdaaWMore
import Derived.Test.YtkdndllgocdbdaaWZeros
import Derived.Laws.IdiomCopy
import Derived.Lib.SliceRun
namespace Go.Proofs.YtkdndllgocdbdaaW.PrintMore
open Go Go.RowKit Go.Proofs.YtkdndllgocdbdaaW.PrintWords Go.Proofs.YtkdndllgocdbdaaW.PrintLast Go.Proofs.YtkdndllgocdbdaaW.PrintWords.Kd
section
variable {P : Program} {ops : Array Oper} {o : Oper} {rest : List Oper} {a : Act} {W : World} {Q : Exit → Act → World → Prop}
theorem gate_calleeV {x : Operand} {as : Array Operand} {ts : Array TypeId} (_ho : o.op = .call { callee := .value x, args := as, argTypes := ts }) (h : wpList P ops Q (o :: rest) a W) : wpList P ops Q (o :: rest) a W := h
end
section
variable {P : Program} {ops : Array Oper} {Q : Exit → Act → World → Prop}
theorem goesV_ {oi : Oper} {N : Option Tmp} {a : Act} {w : World} {K : Act → World → Prop} {f : FuncId} {fn : Func} {x : Operand} {as : Array Operand} {ts : Array TypeId} (hf : P.funcs[f]? = some fn) (hname : (fn.name == "runtime.NumGoroutine") = false) (hb : fn.body.isSome = true) (args : Array Value)
    (hw : Region.wanted oi (yielded ops a.tmps) = true) (hN : oi.dst = N) (hop : oi.op = .call { callee := .value x, args := as, argTypes := ts }) (hargs : as.map a.eval = args)
    (h : Calls P f args w fun e w' => ∃ v, e = .returned v ∧ K (a.put N v) w') (hx : a.eval x = .func (.func f) #[] #[] := by rfl) : if Region.wanted oi (yielded ops a.tmps) = true then Oper.wp P oi a w K Q else K (a.put N undef) w := by
  refine call_ f args hw hN ?_ h
  have he := enters_ hf hname hb args w
  unfold execOp
  simp [hop, resolve, Deferred.ofValue, invoke, hx, hargs, he]
theorem goesLV_ {rest : List Oper} {oi : Oper} {a : Act} {w : World} (N : Option Tmp) (hd : oi.dst = N) (hg : oi.guard = none) {f : FuncId} {fn : Func} {x : Operand} {as : Array Operand} {ts : Array TypeId} (hf : P.funcs[f]? = some fn) (hname : (fn.name == "runtime.NumGoroutine") = false) (hb : fn.body.isSome = true) (args : Array Value)
    (hop : oi.op = .call { callee := .value x, args := as, argTypes := ts }) (hargs : as.map a.eval = args)
    (h : Calls P f args w fun e w' => ∃ v, e = .returned v ∧ wpList P ops Q rest (a.put N v) w') (hx : a.eval x = .func (.func f) #[] #[] := by rfl) : wpList P ops Q (oi :: rest) a w := by
  refine wpList_plain hg fun K hK => ?_
  have he := enters_ hf hname hb args w
  have hrun : (execOp a.eval oi).run P w = .ok (.enter f args) w := by
    unfold execOp
    simp [hop, resolve, Deferred.ofValue, invoke, hx, hargs, he]
  unfold Oper.wp
  rw [hrun, Oper.upon_enter]
  refine h.mono fun e w'' hh => ?_
  obtain ⟨v, rfl, hk⟩ := hh
  subst hd
  exact hK _ _ hk
theorem goesVC_ {oi : Oper} {N : Option Tmp} {a : Act} {w : World} {K : Act → World → Prop} {f : FuncId} {fn : Func} {x : Operand} {as : Array Operand} {ts : Array TypeId} {caps : Array Value} (hf : P.funcs[f]? = some fn) (hname : (fn.name == "runtime.NumGoroutine") = false) (hb : fn.body.isSome = true) (args : Array Value)
    (hw : Region.wanted oi (yielded ops a.tmps) = true) (hN : oi.dst = N) (hop : oi.op = .call { callee := .value x, args := as, argTypes := ts }) (hx : a.eval x = .func (.func f) #[] caps) (hargs : as.map a.eval ++ caps = args)
    (h : Calls P f args w fun e w' => ∃ v, e = .returned v ∧ K (a.put N v) w') : if Region.wanted oi (yielded ops a.tmps) = true then Oper.wp P oi a w K Q else K (a.put N undef) w := by
  refine call_ f args hw hN ?_ h
  have he := enters_ hf hname hb args w
  unfold execOp
  simp [hop, resolve, Deferred.ofValue, invoke, hx, hargs, he]
theorem goesLVC_ {rest : List Oper} {oi : Oper} {a : Act} {w : World} (N : Option Tmp) (hd : oi.dst = N) (hg : oi.guard = none) {f : FuncId} {fn : Func} {x : Operand} {as : Array Operand} {ts : Array TypeId} {caps : Array Value} (hf : P.funcs[f]? = some fn) (hname : (fn.name == "runtime.NumGoroutine") = false) (hb : fn.body.isSome = true) (args : Array Value)
    (hop : oi.op = .call { callee := .value x, args := as, argTypes := ts }) (hx : a.eval x = .func (.func f) #[] caps) (hargs : as.map a.eval ++ caps = args)
    (h : Calls P f args w fun e w' => ∃ v, e = .returned v ∧ wpList P ops Q rest (a.put N v) w') : wpList P ops Q (oi :: rest) a w := by
  refine wpList_plain hg fun K hK => ?_
  have he := enters_ hf hname hb args w
  have hrun : (execOp a.eval oi).run P w = .ok (.enter f args) w := by
    unfold execOp
    simp [hop, resolve, Deferred.ofValue, invoke, hx, hargs, he]
  unfold Oper.wp
  rw [hrun, Oper.upon_enter]
  refine h.mono fun e w'' hh => ?_
  obtain ⟨v, rfl, hk⟩ := hh
  subst hd
  exact hK _ _ hk
end
/-- A variable in memory, read as a row of one element. -/
theorem Kd.C_blk {α : Type} {d : Kd α} {w : World} {g t : Nat} {cs : Array Value} {x : α} (hb : w.heap[g]? = some (.cells cs t (0, 0))) (hK : d.K w x cs.toList) : d.C w (some ⟨g, 0, none⟩) 1 [x] := by
  refine ⟨rfl, by omega, fun _ => ⟨_, rfl, fun j p hp => ?_⟩⟩
  cases j with
  | succ j => simp at hp
  | zero =>
    simp only [List.getElem?_cons_zero, Option.some.injEq] at hp
    subst hp
    refine ⟨cs.toList, d.K_len hK, hK, fun i u hu => ?_⟩
    rw [Addr.add_lit, show 0 + (0 * d.sz + i) = i by omega, blk_cell hb i]
    simpa using hu
section
variable {P : Program} {α : Type}
theorem Kd.R_clear_run (d : Kd α) {W : World} (base : Nat) (t ty e : TypeId) (z : Value) (z0 : α) (ht : P.underlying t = some (.slice e)) (hv : ∀ w, (zeroValue e).run P w = .ok z w) (hz : z.cells.size = d.sz) (hs0 : 0 < d.sz)
    (hzero : ∀ W base ok, d.M W base ok z0 z.cells.toList) {A0 : Option Addr} {n c k : Nat} {xs : List α} {ok : Nat → Prop} (HO : d.R e W base ok (.slice A0 n c) xs) (hk : k ≤ n) {A : Option Addr} (hA : A = if c = k then A0 else A0.map (·.add (k * d.sz))) (c2 : Nat) :
    ∃ w1, (Builtin.clear_ #[t] ty #[.slice A (n - k) c2]).run P W = .ok (.tuple #[]) w1 ∧ d.R e w1 base ok (.slice A0 n c) (xs.take k ++ List.replicate (n - k) z0) ∧ W.grownBy w1 (Value.slice A0 n c).ownBlock := by
  obtain ⟨hn, hnc, _⟩ := Kd.R_reads' HO
  by_cases hkn : k = n
  · subst hkn
    refine ⟨W, ?_, ?_, ⟨rfl, rfl, rfl, Nat.le_refl _, fun _ _ _ => rfl⟩⟩
    · cases A <;> simp [Builtin.clear_, run_underlying ht]
    · rw [Nat.sub_self, List.replicate_zero, List.append_nil, List.take_of_length_le (by omega)]
      exact HO
  have hkl : k < n := by omega
  obtain ⟨hok, inner, hown, hr⟩ := HO
  have hin : inner.length = n * d.sz := by rw [hr.1, hn]
  rcases hown.2 with ⟨hv0, hx0⟩ | ⟨g, cap', cur, hv0, hb, hh, _, hcm, hcs, htake⟩
  · injection hv0 with _ h1 _
    omega
  injection hv0 with ha _ hc
  subst ha
  subst hc
  rw [← hn] at htake
  have hle : k * d.sz ≤ n * d.sz := Nat.mul_le_mul_right _ hk
  have hnc' : n * d.sz ≤ c * d.sz := Nat.mul_le_mul_right _ hnc
  rw [if_neg (by omega), Option.map_some, Addr.add_lit] at hA
  subst hA
  obtain ⟨news, hnews⟩ : ∃ news, news = (Builtin.zeroCells z.cells (n - k)).toList := ⟨_, rfl⟩
  have hnl : news.length = (n - k) * d.sz := by rw [hnews, Array.length_toList, size_zeroCells, hz]
  have hsub : (n - k) * d.sz = n * d.sz - k * d.sz := Nat.sub_mul _ _ _
  have hreps : Reps (d.M W base (fun k' => ok k' ∧ some k' ≠ (Value.slice (some ⟨g, 0, none⟩) n c).ownBlock)) d.sz (List.replicate (n - k) z0) news := by
    rw [hnews]
    exact reps_zeros hz hs0 (hzero _ _ _) (n - k)
  have hone : ∀ u ∈ news, u.oneCell' = true := by
    intro u hu
    obtain ⟨q, hq, rfl⟩ := List.mem_iff_getElem.1 hu
    have hql : q / d.sz < (List.replicate (n - k) z0).length := by
      rw [Nat.div_lt_iff_lt_mul hs0, ← hreps.1]
      exact hq
    refine d.K_one (d.K_of_M (hreps.2 (q / d.sz) _ (List.getElem?_eq_getElem hql))) _ ?_
    rw [List.mem_iff_getElem?]
    refine ⟨q % d.sz, ?_⟩
    rw [List.getElem?_take, if_pos (Nat.mod_lt _ hs0), List.getElem?_drop, Nat.mul_comm, Nat.div_add_mod, List.getElem?_eq_getElem hq]
  have hfit : 0 + k * d.sz + news.length ≤ cur.size := by omega
  have hst := run_storeCells_cells (P := P) g (0 + k * d.sz) news 0 W (fun j hj => by rw [cell_of_row W g _ cur e (0, 0) hh]; simp; omega) (fun j hj => blk_frozen hh _) hone
  rw [Nat.add_zero] at hst
  obtain ⟨cur', h3, h4, h5⟩ := setCells_row news (0 + k * d.sz) W cur hh hfit
  obtain ⟨s1, s2, s3, s4⟩ := setCells_same g news (0 + k * d.sz) W
  have hfar : ∀ k', k' ≠ g → (W.setCells g (0 + k * d.sz) news).heap[k']? = W.heap[k']? := fun k' hk' => setCells_far news _ k' hk'
  have hgo : some g = (Value.slice (some ⟨g, 0, none⟩) n c).ownBlock := by simp [Value.ownBlock]
  have hel : (xs.take k ++ List.replicate (n - k) z0).length = n := by rw [List.length_append, List.length_take, List.length_replicate]; omega
  refine ⟨W.setCells g (0 + k * d.sz) news, ?_, ⟨hok, inner.take (k * d.sz) ++ news, ⟨?_, .inr ⟨g, c, cur', by rw [hel], hb, h3, by rw [hel]; omega, hcm, by rw [h4, hcs], ?_⟩⟩, ?_⟩, ⟨s1, s2, s3, by rw [s4]; exact Nat.le_refl _, fun k' _ hk' => hfar k' (fun he => hk' (by rw [he]; exact hgo))⟩⟩
  · obtain ⟨m, hm⟩ : ∃ m, n - k = m + 1 := ⟨n - k - 1, by omega⟩
    rw [hm] at hnews ⊢
    simp only [Nat.zero_add] at hst
    simp [Builtin.clear_, run_underlying ht, hv, ← hnews, hst]
  · rw [List.length_append, List.length_take, hnl, hel]
    omega
  · rw [hel, h5, Nat.zero_add]
    have h7 : cur.toList.take (k * d.sz) = inner.take (k * d.sz) := by
      rw [← htake, List.take_take, Nat.min_eq_left (by omega)]
    rw [h7]
    exact List.take_left' (by rw [List.length_append, List.length_take, hnl]; omega)
  · have hmv : ∀ p q, d.M W base (fun k' => ok k' ∧ some k' ≠ (Value.slice (some ⟨g, 0, none⟩) n c).ownBlock) p q → d.M (W.setCells g (0 + k * d.sz) news) base (fun k' => ok k' ∧ some k' ≠ (Value.slice (some ⟨g, 0, none⟩) n c).ownBlock) p q := fun p q hp =>
      d.M_move (fun k' hk' => hfar k' (fun he => hk'.2 (by rw [← hgo, he]))) hp
    exact reps_append ((reps_take hr (by omega)).imp_ hmv) (hreps.imp_ hmv)
end
section
variable {P : Program} {ops : Array Oper} {rest : List Oper} {o : Oper} {a : Act} {Q : Exit → Act → World → Prop} {α : Type}
/-- clear(s[k:]) of a row of the call's own. -/
theorem Kd.R_clear (d : Kd α) {w0 W : World} (base : Nat) (hgd : o.guard = none) (hdst : o.dst = none) (x : Operand) (t e : TypeId) (z : Value) (z0 : α) (ho : o.op = .call { callee := .builtin .clear, args := #[x], argTypes := #[t] })
    (bytes : Nat) (ht : P.underlying t = some (.slice e)) (hinfo : (P.info? e).map (fun i => (i.zero, i.size, i.bytes)) = some (some z, d.sz, bytes)) (hz : z.cells.size = d.sz) (hs0 : 0 < d.sz) (hzero : ∀ W base ok, d.M W base ok z0 z.cells.toList) {A0 A : Option Addr} {n c k m c2 : Nat} {xs : List α} {ok : Nat → Prop}
    (hx : a.eval x = .slice A m c2) (hA : A = if c = k then A0 else A0.map (·.add (k * d.sz))) (hm : m = n - k)
    (HO : d.R e W base ok (.slice A0 n c) xs) (hk : k ≤ n) (HB : Below base w0 W) (hbase : base ≤ W.heap.size)
    (h : ∀ w1, d.R e w1 base ok (.slice A0 n c) (xs.take k ++ List.replicate (n - k) z0) → Below base w0 w1 → W.grownBy w1 (Value.slice A0 n c).ownBlock → wpList P ops Q rest a w1) : wpList P ops Q (o :: rest) a W := by
  subst hm
  have hv : ∀ w, (zeroValue e).run P w = .ok z w := fun w => by
    obtain ⟨i, hi, he⟩ := Option.map_eq_some_iff.1 hinfo
    injection he with he _
    simp [zeroValue, typeInfo, hi, he]
  obtain ⟨w1, hr, h1, h2⟩ := Kd.R_clear_run (P := P) d base t o.type e z z0 ht hv hz hs0 hzero HO hk hA c2
  refine wpList_plain hgd fun K hK => ?_
  unfold Oper.wp execOp
  simp only [ho, resolve, invoke, builtin, Sem.run_bind, Sem.run_pure, Result.andThen_ok, List.map_toArray, List.map_cons, List.map_nil, hx, hr]
  have hp : a.put o.dst (.tuple #[]) = a := by rw [hdst]; rfl
  refine hK (a.put o.dst (.tuple #[])) w1 ?_
  rw [hp]
  exact h w1 h1 (HB.grown h2 hbase (fun k hk => Kd.R_base HO _ hk)) h2
end
/-- One cell of a variable in memory, read as a row of one number. -/
theorem Kd.C_blk_at {k : IntKind} {w : World} {g t : Nat} {cs : Array Value} {x : Int} (hb : w.heap[g]? = some (.cells cs t (0, 0))) (j : Nat) (hj : cs[j]? = some (.int k x)) : (Kd.int k).C w (some ⟨g, j, none⟩) 1 [x] := by
  refine ⟨rfl, by omega, fun _ => ⟨_, rfl, fun q p hp => ?_⟩⟩
  cases q with
  | succ q => simp at hp
  | zero =>
    simp only [List.getElem?_cons_zero, Option.some.injEq] at hp
    subst hp
    refine ⟨[.int k x], rfl, rfl, fun i u hu => ?_⟩
    cases i with
    | succ i => simp at hu
    | zero =>
      simp only [List.getElem?_cons_zero, Option.some.injEq] at hu
      subst hu
      rw [Nat.zero_mul, Nat.zero_add, Addr.add_lit, Nat.add_zero, blk_cell hb j]
      exact hj
end Go.Proofs.YtkdndllgocdbdaaW.PrintMore
