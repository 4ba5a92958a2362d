import Derived.Test.YtplcjkgbjapbmaaUp
import Derived.Test.YtplcjkgbjapbmaaPMc
namespace Go.Proofs.Ytplcjkgbjapbmaa.C
open Go.RowKit Go.Proofs.YtplcjkgbjapbmaaW Go.Proofs.YtplcjkgbjapbmaaW.PrintWords Go.Proofs.Ytplcjkgbjapbmaa.U
set_option maxHeartbeats 1000000
set_option maxRecDepth 100000
set_option linter.unusedVariables false
set_option linter.unusedSimpArgs false
/-! Rows whose room is known: cap, parts up to it, copies, zeros behind. -/
theorem R_raw {α : Type} {d : Kd α} {enc : α → List Value} {e B : Nat} {w : World} {own : Nat → Prop} {v : Value} {xs : List α} (hf : Flat d enc) (hR : d.R e w B own v xs) (hpos : 0 < xs.length) : ∃ g cap rest, v = .slice (some ⟨g, 0, none⟩) xs.length cap ∧ own g ∧ w.heap[g]? = some (.cells (xs.flatMap enc ++ rest).toArray e (0, 0)) ∧ (xs.flatMap enc ++ rest).length = cap * d.sz ∧ xs.length ≤ cap ∧ cap ≤ maxLen := by
  obtain ⟨h0, inner, ho, hr⟩ := hR
  have hin := reps_flat (enc := enc) (fun x cs h => (hf.2 _ _ _ _ _).1 h) xs inner hr
  rcases ho.2 with ⟨rfl, h1⟩ | ⟨g, cap, cur, rfl, hg, hh, hc, hm, hs, ht⟩
  · have : xs.length = 0 := by have := congrArg (fun v => match v with | Value.slice _ n _ => n | _ => 0) (rfl : Value.slice none 0 0 = .slice none 0 0); omega
    omega
  · refine ⟨g, cap, cur.toList.drop (xs.length * d.sz), rfl, h0 g rfl, ?_, ?_, hc, hm⟩
    · rw [← hin, ← ht, List.take_append_drop]
      simpa using hh
    · rw [← hin, ← ht, List.take_append_drop, Array.length_toList, hs]
theorem R_of_raw {α : Type} {d : Kd α} {enc : α → List Value} {e n cap : Nat} {w : World} {own : Nat → Prop} {g : Nat} {vs : List Value} {ys : List α} (hf : Flat d enc) (hg : own g) (hb : w.heap[g]? = some (.cells vs.toArray e (0, 0))) (hl : vs.length = cap * d.sz) (hn : n ≤ cap) (hc : cap ≤ maxLen) (hlen : ys.length = n) (ht : vs.take (n * d.sz) = ys.flatMap enc) : d.R e w 0 own (.slice (some ⟨g, 0, none⟩) n cap) ys := by
  subst hlen
  exact ⟨fun k hk => by cases hk; exact hg, ys.flatMap enc, ⟨flatMap_len hf.len ys, .inr ⟨g, cap, _, rfl, Nat.zero_le _, hb, hn, hc, by simp [hl], by simpa using ht⟩⟩, flatMap_len hf.len ys, fun j x hj => (hf.2 _ _ _ _ _).2 (flatMap_at hf.len ys j x hj)⟩
section
variable {P : Program} {X : Cx} {σ : St} {μ : Mu} {ω : Om} {a : Act} {w : World} {Q : Post} {cd : Code} {α : Type} {d : Kd α} {enc : α → List Value} {e : Nat} {xs : List α}
/-- An own row, opened. -/
theorem ax_raw (id : Nat) (hH : σ.H id = some (.row d e xs)) (hf : Flat d enc) (hpos : 0 < xs.length) (h : ∀ cap rest, xs.length ≤ cap → cap ≤ maxLen → (xs.flatMap enc ++ rest).length = cap * d.sz → AX P X cd { σ with H := upd σ.H id (some (.raw e d.sz xs.length cap (xs.flatMap enc ++ rest))) } Q) : AX P X cd σ Q := fun μ ω a w hs => by
  obtain ⟨v, hv, B, hR⟩ := hs.obj id _ hH
  obtain ⟨g, cap, rest, rfl, hg, hb, hl, hn, hc⟩ := R_raw hf (Kd.S_R hR) hpos
  exact h cap rest hn hc hl μ ω a w (hs.set (o1 := .raw e d.sz xs.length cap (xs.flatMap enc ++ rest)) hH hv (Kp.refl _ _) ⟨g, rfl, hg, hb, hl, hn, hc⟩)
/-- .. and shut again, under another name. -/
theorem Sat.shut (h : Sat X σ μ ω a w) {id nid n m cap sz : Nat} {vs : List Value} {ys : List α} (hH : σ.H id = some (.raw e sz n cap vs)) (hf : Flat d enc) (hsz : sz = d.sz) (hid : σ.D nid = false) (hm : ys.length = m) (hmc : m ≤ cap) (ht : vs.take (m * d.sz) = ys.flatMap enc) : ∃ μ' ω', Sat X (σ.trim id nid (.row d e ys)) μ' ω' a w := by
  obtain ⟨v, hv, g, rfl, hg, hb, hl, hn, hc⟩ := h.obj id _ hH
  subst hsz
  have h0 := h.made nid hid
  have hne : nid ≠ id := fun e => by rw [e] at h0; rw [h0] at hv; cases hv
  have hle : Le μ (upd μ nid (some (.slice (some ⟨g, 0, none⟩) m cap))) := Up_upd h0
  have h2 : upd μ nid (some (.slice (some ⟨g, 0, none⟩) m cap)) nid = some (.slice (some ⟨g, 0, none⟩) m cap) := upd_same _ _ _
  have key : ∀ j oj, (σ.trim id nid (.row d e ys)).H j = some oj → (j = nid ∧ oj = .row d e ys) ∨ (j ≠ nid ∧ j ≠ id ∧ ∃ o, σ.H j = some o ∧ oj = o.sb id nid) := fun j oj hj => by
    unfold St.trim at hj
    simp only at hj
    cases e1 : Nat.beq j nid with
    | true => rw [e1] at hj; simp only [cond_true, Option.some.injEq] at hj; exact .inl ⟨Nat.eq_of_beq_eq_true e1, hj.symm⟩
    | false =>
      rw [e1] at hj
      cases e2 : Nat.beq j id with
      | true => rw [e2] at hj; cases hj
      | false =>
        rw [e2] at hj
        simp only [cond_false, Option.map_eq_some_iff] at hj
        obtain ⟨o, ho, e⟩ := hj
        exact .inr ⟨fun e => by subst e; simp at e1, fun e => by subst e; simp at e2, o, ho, e.symm⟩
  refine ⟨upd μ nid (some (.slice (some ⟨g, 0, none⟩) m cap)), upd ω nid (ω id), h.kept, h.size, h.defers, fun t' av ht => ?_, fun j hj => ?_, fun j oj hj => ?_, fun j oj hj k hk => ?_, fun i j oi oj hi hj hij k hki hkj => ?_, fun q hq => ?_⟩
  · obtain ⟨av0, hav, rfl⟩ := Option.map_eq_some_iff.1 ht
    obtain ⟨u, hu, hc⟩ := h.slot t' av0 hav
    exact ⟨u, hu, AV.con_sb hle hv h2 hc⟩
  · by_cases e : j = nid
    · subst e; simp [St.trim, upd_same] at hj
    · rw [upd_ne _ e]; exact h.made j (by simpa [St.trim, upd_ne _ e] using hj)
  · rcases key j oj hj with ⟨rfl, rfl⟩ | ⟨n1, n2, o, ho, rfl⟩
    · exact ⟨_, upd_same _ _ _, 0, by rw [upd_same]; exact S_flat hf (R_of_raw hf hg hb hl hmc hc hm ht)⟩
    · obtain ⟨u, hu, hh⟩ := h.obj j o ho
      refine ⟨u, hle _ _ hu, ?_⟩
      rw [upd_ne _ n1]
      cases o with
      | box t cs => obtain ⟨g, vs, h1, h2', h3, h4, h5⟩ := hh; exact ⟨g, vs, h1, h2', h3, conL_sb hle hv h2 h4, h5⟩
      | row d t xs => exact hh
      | ro d xs => exact hh
      | raw e sz n cap vs => exact hh
      | gen Φ st => exact hh
  · rcases key j oj hj with ⟨rfl, rfl⟩ | ⟨n1, n2, o, ho, rfl⟩
    · rw [upd_same] at hk; exact h.own id _ hH k hk
    · rw [upd_ne _ n1] at hk; exact h.own j o ho k hk
  · rcases key i oi hi with ⟨rfl, rfl⟩ | ⟨n1, n2, o, ho, rfl⟩
    · rcases key j oj hj with ⟨rfl, rfl⟩ | ⟨m1, m2, o', ho', rfl⟩
      · exact hij rfl
      · rw [upd_same] at hki; rw [upd_ne _ m1] at hkj; exact h.sep id j _ o' hH ho' (Ne.symm m2) k hki hkj
    · rw [upd_ne _ n1] at hki
      rcases key j oj hj with ⟨rfl, rfl⟩ | ⟨m1, m2, o', ho', rfl⟩
      · rw [upd_same] at hkj; exact h.sep i id o _ ho hH n2 k hki hkj
      · rw [upd_ne _ m1] at hkj; exact h.sep i j o o' ho ho' hij k hki hkj
  · have h3 := h.anc q hq
    have hne2 : q.1 ≠ nid := fun e => by rw [e, h0] at h3; cases h3.1
    exact ⟨hle _ _ h3.1, by rw [upd_ne _ hne2]; exact h3.2⟩
theorem ax_shut (id nid : Nat) {n m cap sz : Nat} {vs : List Value} (ys : List α) (hH : σ.H id = some (.raw e sz n cap vs)) (hf : Flat d enc) (hsz : sz = d.sz) (hid : σ.D nid = false) (hm : ys.length = m) (hmc : m ≤ cap) (ht : vs.take (m * d.sz) = ys.flatMap enc) (h : AX P X cd (σ.trim id nid (.row d e ys)) Q) : AX P X cd σ Q := fun μ ω a w hs => by
  obtain ⟨μ', ω', hs'⟩ := hs.shut hH hf hsz hid hm hmc ht
  exact h μ' ω' a w hs'
end
/-! ### runs -/
theorem run_copyG {P : Program} {t t2 ty e sz g off m c1 m2 c2 k T : Nat} {Ay : Option Addr} {us : List Value} {cur : Array Value} {w : World} (ht : sliceT P t e sz = true) (hk : k = Nat.min m2 m) (hl : us.length = k * sz) (hld : ∀ j u, us[j]? = some u → ∃ ad, Ay = some ad ∧ w.cell? (ad.add j) = some u) (hb : w.heap[g]? = some (.cells cur T (0, 0))) (hfit : off + us.length ≤ cur.size) (h1 : ∀ u ∈ us, u.oneCell' = true) :
    ∃ w', (Builtin.copy_ #[t, t2] ty #[.slice (some ⟨g, off, none⟩) m c1, .slice Ay m2 c2]).run P w = .ok (.int .i64 (k : Int)) w' ∧ Kp w w' (fun k => k = g) ∧ w'.heap[g]? = some (.cells (setL cur.toList off us).toArray T (0, 0)) := by
  obtain ⟨w', hr, hkp, hb'⟩ := run_storeCells (P := P) (off := off) us 0 cur w hb (by omega) h1
  obtain ⟨hu, hsz⟩ := sliceT_parts ht
  refine ⟨w', ?_, hkp, by simpa using hb'⟩
  have hf : (Builtin.firstCells sz k (.slice Ay m2 c2)).run P w = .ok us.toArray w := by
    cases Ay with
    | none =>
      have : us = [] := by
        cases us with
        | nil => rfl
        | cons u us => obtain ⟨ad, e, _⟩ := hld 0 u rfl; cases e
      simp [Builtin.firstCells, this]
    | some ad =>
      have := run_loadCells_list (P := P) w ad us (fun j v hj => by obtain ⟨ad', e, h⟩ := hld j v hj; cases e; exact h)
      simp only [Builtin.firstCells, ← hl]
      exact this
  simp [Builtin.copy_, run_underlying hu, Builtin.lenOf, run_size hsz, ← hk, hf, hr, goInt]
theorem run_append_grow_zeros {P : Program} {t tn ty e bytes size : Nat} {z : Value} {kn : IntKind} (ht : P.underlying t = some (.slice e)) (htn : P.underlying tn = some (.int kn)) (hinfo : (P.info? e).map (fun i => (i.zero, i.size, i.bytes)) = some (some z, size, bytes)) (base : Option Addr) (sLen sCap m : Nat) (k : IntKind) (olds : List Value) (w : World)
    (hold : (Builtin.firstCells size sLen (.slice base sLen sCap)).run P w.drew = .ok olds.toArray w.drew) (hsz : 0 < size) (hb0 : 0 < bytes) (hm0 : 0 < m) (hzs : z.cells.size = size) (hg : sCap < sLen + m) (hfit : (sLen + m) * bytes ≤ 140737488355328) :
    (Builtin.append_ #[t, tn] ty #[.slice base sLen sCap, .int k (m : Int)]).run P w =
      .ok (.slice (some ⟨w.heap.size, 0, none⟩) (sLen + m) (grownCap w (sLen + m) sCap e))
        (w.drew.alloc (.cells ((olds ++ (Builtin.zeroCells z.cells m).toList).toArray ++ Builtin.zeroCells z.cells (grownCap w (sLen + m) sCap e - (sLen + m))) e)) := by
  obtain ⟨i, hi, hzz⟩ := Option.map_eq_some_iff.1 hinfo
  simp only [Prod.mk.injEq] at hzz
  obtain ⟨hz, hsize, hby⟩ := hzz
  subst hsize
  subst hby
  have hle : sLen + m ≤ 140737488355328 := Nat.le_trans (Nat.le_mul_of_pos_right _ hb0) hfit
  have hn : ¬ (sLen + m ≤ sCap) := by omega
  have hw : IntKind.i64.wrap (m : Int) = m := by rw [IntKind.wrap_i64]; omega
  have hneg : ¬ ((m : Int) < 0) := by omega
  have h63' : ¬ (9223372036854775807 < ((sLen : Int) + (m : Int))) := by omega
  have hmb : m * i.bytes ≤ 140737488355328 := Nat.le_trans (Nat.mul_le_mul_right _ (Nat.le_add_left m sLen)) hfit
  have hbig : ¬ (281474976710656 < (m : Int) * (i.bytes : Int)) := by
    rw [← Int.natCast_mul]
    omega
  have h48' : ¬ (281474976710656 < Builtin.nextslicecap (sLen + m) sCap * i.bytes) := by
    have := growslice_fits (bytes := i.bytes) hg hfit
    omega
  have hmn : m ≠ 0 := by omega
  have hsn : i.size ≠ 0 := by omega
  simp [Builtin.append_, run_underlying ht, run_underlying htn, sizeOf, typeInfo, zeroValue, hi, hz, hn, h63', h48', Question.forced, hold, newRow, grownCap, asInt, asIntOf, hw, hneg, hbig, hmn, hsn]
  rw [if_neg (by rw [Nat.mul_eq_zero]; omega)]
  congr 3
  apply Array.ext'
  simp [List.append_assoc]
section
variable {P : Program} {X : Cx} {ops : Array Oper} {o : Oper} {l : List Oper} {σ : St} {K : List (Pre × Eff) → St → Prop} {lg : List (Nat × AV)} {μ : Mu} {ω : Om} {a : Act} {w : World} {α : Type} {d : Kd α} {enc : α → List Value} {dec : List SV → Option α} {xs ys : List α}
theorem Sat.raw (hs : Sat X σ μ ω a w) {id e sz n cap : Nat} {vs : List Value} (hH : σ.H id = some (.raw e sz n cap vs)) : ∃ g, μ id = some (.slice (some ⟨g, 0, none⟩) n cap) ∧ ω id g ∧ w.heap[g]? = some (.cells vs.toArray e (0, 0)) ∧ vs.length = cap * sz ∧ n ≤ cap ∧ cap ≤ maxLen := by
  obtain ⟨v, hv, g, rfl, h⟩ := hs.obj id _ hH
  exact ⟨g, hv, h⟩
theorem Sat.part (hs : Sat X σ μ ω a w) {x : Operand} {id sz lo m g n cap : Nat} (hx : opnd σ.F x = some (.o (.s id sz lo m))) (hg : μ id = some (.slice (some ⟨g, 0, none⟩) n cap)) (hlo : lo = 0 ∨ lo < cap) : lo + m ≤ cap ∧ a.eval x = .slice (some ⟨g, lo * sz, none⟩) m (cap - lo) := by
  obtain ⟨A, N, c, hm, hlc, A', ev, hA⟩ := hs.ev hx
  rw [hg] at hm
  cases hm
  have hA := hA hlo
  rw [Option.map_some, add_plain, Nat.zero_add] at hA
  exact ⟨hlc, by rw [ev, hA]⟩
section
variable (hgo : GOn ops σ o lg) (hd : dstOk o.dst σ.n = true)
include hgo hd
theorem x_capR {t : Nat} {x : Operand} {id e sz n cap : Nat} {vs : List Value} [hs : TSlice P t e] (ho : o.op = .call { callee := .builtin .cap, args := #[x], argTypes := #[t] }) (hx : opnd σ.F x = some (.o (.i id))) (hH : σ.H id = some (.raw e sz n cap vs))
    (h : LX P X ops l (σ.app o.dst ⟨.o (.c (.int .i64 (cap : Int))), [], []⟩) (fun C => K ((⟨lg ++ look x (.o (.i id)), [(id, .raw e sz n cap vs)]⟩, ⟨.o (.c (.int .i64 (cap : Int))), [], []⟩) :: C))) : LX P X ops (o :: l) σ K :=
  Lx.val (h := h) hgo.1 hgo.2 hd (look_fits hx) (one_mem hH) (fun σ1 h1 h2 μ ω a w hs1 => by
    obtain ⟨g, hm, _⟩ := hs1.raw (h2 _ List.mem_cons_self)
    have e1 := (hs1.ev (opnd_of hx h1)).1
    rw [hm] at e1
    injection e1 with e1
    refine ⟨_, ?_, rfl⟩
    unfold execOp
    simp [ho, resolve, invoke, builtin, ← e1, Builtin.cap_, run_underlying hs.h, goInt])
theorem x_lenR {t : Nat} {x : Operand} {id e sz n cap : Nat} {vs : List Value} [hs : TSlice P t e] (ho : o.op = .call { callee := .builtin .len, args := #[x], argTypes := #[t] }) (hx : opnd σ.F x = some (.o (.i id))) (hH : σ.H id = some (.raw e sz n cap vs))
    (h : LX P X ops l (σ.app o.dst ⟨.o (.c (.int .i64 (n : Int))), [], []⟩) (fun C => K ((⟨lg ++ look x (.o (.i id)), [(id, .raw e sz n cap vs)]⟩, ⟨.o (.c (.int .i64 (n : Int))), [], []⟩) :: C))) : LX P X ops (o :: l) σ K :=
  Lx.val (h := h) hgo.1 hgo.2 hd (look_fits hx) (one_mem hH) (fun σ1 h1 h2 μ ω a w hs1 => by
    obtain ⟨g, hm, _⟩ := hs1.raw (h2 _ List.mem_cons_self)
    have e1 := (hs1.ev (opnd_of hx h1)).1
    rw [hm] at e1
    injection e1 with e1
    refine ⟨_, ?_, rfl⟩
    unfold execOp
    simp [ho, resolve, invoke, builtin, ← e1, Builtin.len_, run_underlying hs.h, goInt])
theorem x_sliceR {t e n by_ : Nat} {z : Value} [hs : TSlice P t e] [he : TElem P e n by_ z] {x : Operand} {lo hi : Option Operand} {id m k sz nn cap : Nat} {vs : List Value} {rl rh : Option Int} (ho : o.op = .slice t x lo hi none) (hx : opnd σ.F x = some (.o (.i id))) (hlo : bndO σ.F lo = some rl) (hhi : bndO σ.F hi = some rh) (hH : σ.H id = some (.raw e sz nn cap vs)) (hn : n = sz) (hm : bndN 0 rl m) (hk : bndN nn rh k) (hmk : m ≤ k) (hkl : k ≤ cap)
    (h : LX P X ops l (σ.app o.dst ⟨.o (.s id sz m (k - m)), [], []⟩) (fun C => K ((⟨lg ++ (look x (.o (.i id)) ++ (lookB σ.F lo ++ lookB σ.F hi)), [(id, .raw e sz nn cap vs)]⟩, ⟨.o (.s id sz m (k - m)), [], []⟩) :: C))) : LX P X ops (o :: l) σ K :=
  Lx.val (h := h) hgo.1 hgo.2 hd (mem_app (look_fits hx) (mem_app lookB_fits lookB_fits)) (one_mem hH) (fun σ1 h1 h2 μ ω a w hs1 => by
    obtain ⟨g, hmu, _⟩ := hs1.raw (h2 _ List.mem_cons_self)
    have e1 := (hs1.ev (opnd_of hx (app_l h1))).1
    rw [hmu] at e1
    injection e1 with e1
    refine ⟨.slice (if cap = m then some ⟨g, 0, none⟩ else (some (⟨g, 0, none⟩ : Addr)).map (·.add (m * sz))) (k - m) (cap - m), ?_, _, nn, cap, hmu, by omega, _, rfl, fun hc => ?_⟩
    · unfold execOp
      simp only [ho, ← e1]
      have := run_slicing (P := P) (t := t) (e := e) (sz := sz) (by rw [← hn]; exact sliceT_of (z := z) (by_ := by_)) (some ⟨g, 0, none⟩) nn cap (hs1.bnd (bndO_of hlo (app_l (app_r h1))) hm) (hs1.bnd (bndO_of hhi (app_r (app_r h1))) hk) hmk hkl w
      simp [this]
    · rcases hc with rfl | hc
      · by_cases h0 : cap = 0
        · rw [if_pos h0]; simp [add_zero_]
        · rw [if_neg h0]
      · rw [if_neg (by omega)])
/-- A part of a part. -/
theorem x_sliceP {t e n by_ : Nat} {z : Value} [hs : TSlice P t e] [he : TElem P e n by_ z] {x : Operand} {lo hi : Option Operand} {id l0 mm m k sz nn cap : Nat} {vs : List Value} {rl rh : Option Int} (ho : o.op = .slice t x lo hi none) (hx : opnd σ.F x = some (.o (.s id sz l0 mm))) (hlo : bndO σ.F lo = some rl) (hhi : bndO σ.F hi = some rh) (hH : σ.H id = some (.raw e sz nn cap vs)) (hn : n = sz) (hm : bndN 0 rl m) (hk : bndN mm rh k) (hmk : m ≤ k) (hkl : l0 + k ≤ cap) (hl0 : l0 + m < cap ∨ l0 + m = 0)
    (h : LX P X ops l (σ.app o.dst ⟨.o (.s id sz (l0 + m) (k - m)), [], []⟩) (fun C => K ((⟨lg ++ (look x (.o (.s id sz l0 mm)) ++ (lookB σ.F lo ++ lookB σ.F hi)), [(id, .raw e sz nn cap vs)]⟩, ⟨.o (.s id sz (l0 + m) (k - m)), [], []⟩) :: C))) : LX P X ops (o :: l) σ K :=
  Lx.val (h := h) hgo.1 hgo.2 hd (mem_app (look_fits hx) (mem_app lookB_fits lookB_fits)) (one_mem hH) (fun σ1 h1 h2 μ ω a w hs1 => by
    obtain ⟨g, hmu, _⟩ := hs1.raw (h2 _ List.mem_cons_self)
    obtain ⟨_, e1⟩ := hs1.part (opnd_of hx (app_l h1)) hmu (by omega)
    refine ⟨.slice (if cap - l0 = m then some ⟨g, l0 * sz, none⟩ else (some (⟨g, l0 * sz, none⟩ : Addr)).map (·.add (m * sz))) (k - m) (cap - l0 - m), ?_, _, nn, cap, hmu, by omega, _, by rw [Nat.sub_sub], fun hc => ?_⟩
    · unfold execOp
      simp only [ho, e1]
      have := run_slicing (P := P) (t := t) (e := e) (sz := sz) (by rw [← hn]; exact sliceT_of (z := z) (by_ := by_)) (some ⟨g, l0 * sz, none⟩) mm (cap - l0) (hs1.bnd (bndO_of hlo (app_l (app_r h1))) hm) (hs1.bnd (bndO_of hhi (app_r (app_r h1))) hk) hmk (by omega) w
      simp [this]
    · rcases hl0 with h0 | h0
      · rw [if_neg (by omega)]
        simp only [Option.map_some, add_plain, Nat.zero_add, Nat.add_mul]
      · have h01 : l0 = 0 := by omega
        have h02 : m = 0 := by omega
        subst h01
        subst h02
        simp [add_zero_])
/-- copy(dst, src) within an opened row. -/
theorem x_copyRR {t t2 : Nat} {n by_ : Nat} {z : Value} {x y : Operand} {id e sz nn cap lo m lo2 m2 k : Nat} {vs us : List Value} [hs : TSlice P t e] [he : TElem P e n by_ z] (ho : o.op = .call { callee := .builtin .copy, args := #[x, y], argTypes := #[t, t2] }) (hx : opnd σ.F x = some (.o (.s id sz lo m))) (hy : opnd σ.F y = some (.o (.s id sz lo2 m2))) (hH : σ.H id = some (.raw e sz nn cap vs)) (hn : n = sz)
    (hk : k = Nat.min m2 m) (hlo : lo < cap) (hlo2 : lo2 < cap) (hus : us = (vs.drop (lo2 * sz)).take (k * sz)) (hl : us.length = k * sz) (hfit : lo * sz + us.length ≤ vs.length) (h1 : ∀ u ∈ us, u.oneCell' = true)
    (h : LX P X ops l (σ.app o.dst ⟨.o (.c (.int .i64 (k : Int))), [(id, some (.raw e sz nn cap (setL vs (lo * sz) us)))], []⟩) (fun C => K ((⟨lg ++ (look x (.o (.s id sz lo m)) ++ look y (.o (.s id sz lo2 m2))), [(id, .raw e sz nn cap vs)]⟩, ⟨.o (.c (.int .i64 (k : Int))), [(id, some (.raw e sz nn cap (setL vs (lo * sz) us)))], []⟩) :: C))) : LX P X ops (o :: l) σ K :=
  Lx.run (h := h) (e := ⟨.o (.c (.int .i64 (k : Int))), [(id, some (.raw e sz nn cap (setL vs (lo * sz) us)))], []⟩) hgo.1 hgo.2 (mem_app (look_fits hx) (look_fits hy)) (one_mem hH) no_mem (fun σ1 hn1 h2 h4 h3 μ ω a w hs1 K Q hK => by
    have hH1 := h4 _ List.mem_cons_self
    obtain ⟨g, hmu, hown, hb, hvl, hnc, hcm⟩ := hs1.raw hH1
    obtain ⟨_, ex⟩ := hs1.part (opnd_of hx (app_l h2)) hmu (.inr hlo)
    obtain ⟨_, ey⟩ := hs1.part (opnd_of hy (app_r h2)) hmu (.inr hlo2)
    obtain ⟨w', hr, hkp, hb'⟩ := run_copyG (P := P) (t := t) (t2 := t2) (ty := o.type) (e := e) (sz := sz) (c1 := cap - lo) (c2 := cap - lo2) (Ay := some ⟨g, lo2 * sz, none⟩) (us := us) (by rw [← hn]; exact sliceT_of (z := z) (by_ := by_)) hk hl (fun j u hj => ⟨_, rfl, by
      rw [add_plain, blk_cell hb]
      have hjl := (List.getElem?_eq_some_iff.1 hj).1
      rw [hus, List.getElem?_take_of_lt (by omega), List.getElem?_drop] at hj
      simpa using hj⟩) hb (by simpa using hfit) h1
    have hrun : (execOp a.eval o).run P w = .ok (.value (.int .i64 (k : Int))) w' := by
      unfold execOp
      simp [ho, resolve, invoke, builtin, ex, ey, hr]
    unfold Oper.wp
    rw [hrun]
    exact hK _ _ _ _ ((hs1.set (id := id) (o1 := .raw e sz nn cap (setL vs (lo * sz) us)) hH1 hmu (hkp.mono (fun k hk => by rw [hk]; exact hown)) ⟨g, rfl, hown, by simpa using hb', by rw [setL_length]; exact hvl, hnc, hcm⟩).put (av := .o (.c (.int .i64 (k : Int)))) (dstOk_spec (hn1 ▸ hd)) rfl))
/-- copy(dst, row). -/
theorem x_copyRv {t t2 : Nat} {n by_ : Nat} {z : Value} {x y : Operand} {id id2 e sz nn cap lo m k : Nat} {b : AObj} {vs us : List Value} [hs : TSlice P t e] [he : TElem P e n by_ z] [hkf : KFlat d enc dec] (ho : o.op = .call { callee := .builtin .copy, args := #[x, y], argTypes := #[t, t2] }) (hx : opnd σ.F x = some (.o (.s id sz lo m))) (hy : opnd σ.F y = some (.o (.i id2))) (hH : σ.H id = some (.raw e sz nn cap vs)) (hH2 : σ.H id2 = some b) (hr2 : Rdb d ys b) (hn : n = sz) (hsz : sz = d.sz)
    (hk : k = Nat.min ys.length m) (hlo : lo < cap) (hus : us = (ys.take k).flatMap enc) (hfit : lo * sz + us.length ≤ vs.length)
    (h : LX P X ops l (σ.app o.dst ⟨.o (.c (.int .i64 (k : Int))), [(id, some (.raw e sz nn cap (setL vs (lo * sz) us)))], []⟩) (fun C => K ((⟨lg ++ (look x (.o (.s id sz lo m)) ++ look y (.o (.i id2))), [(id, .raw e sz nn cap vs), (id2, b)]⟩, ⟨.o (.c (.int .i64 (k : Int))), [(id, some (.raw e sz nn cap (setL vs (lo * sz) us)))], []⟩) :: C))) : LX P X ops (o :: l) σ K :=
  Lx.run (h := h) (e := ⟨.o (.c (.int .i64 (k : Int))), [(id, some (.raw e sz nn cap (setL vs (lo * sz) us)))], []⟩) hgo.1 hgo.2 (mem_app (look_fits hx) (look_fits hy)) (two_mem hH hH2) no_mem (fun σ1 hn1 h2 h4 h3 μ ω a w hs1 K Q hK => by
    have hH1 := h4 (id, .raw e sz nn cap vs) List.mem_cons_self
    have hH3 : σ1.H id2 = some b := h4 (id2, b) (by simp)
    obtain ⟨g, hmu, hown, hb, hvl, hnc, hcm⟩ := hs1.raw hH1
    obtain ⟨_, ex⟩ := hs1.part (opnd_of hx (app_l h2)) hmu (.inr hlo)
    obtain ⟨A2, c2, hmu2, hlc2, hC2, ey⟩ := hr2.at_ hs1 hH3 (opnd_of hy (app_r h2))
    have hkl : (ys.take k).length = k := by rw [List.length_take, hk]; exact Nat.min_eq_left (Nat.min_le_left _ _)
    have hlen : us.length = k * sz := by rw [hus, flatMap_len hkf.f.len, hkl, hsz]
    have hsub := C_sub (lo := 0) (n := k) (c := c2) (A' := A2) hC2 (by rw [hk, Nat.zero_add]; exact Nat.min_le_left _ _) (by rw [hk, Nat.zero_add]; exact Nat.le_trans (Nat.min_le_left _ _) hlc2) (fun _ => by cases A2 <;> simp [add_zero_])
    rw [List.drop_zero] at hsub
    obtain ⟨w', hr, hkp, hb'⟩ := run_copyG (P := P) (t := t) (t2 := t2) (ty := o.type) (e := e) (sz := sz) (c1 := cap - lo) (c2 := c2) (Ay := A2) (us := us) (by rw [← hn]; exact sliceT_of (z := z) (by_ := by_)) hk hlen (fun j u hj => by
      have hjl := (List.getElem?_eq_some_iff.1 hj).1
      have hs0 : 0 < d.sz := by rw [← hsz, ← hn]; exact he.n
      have hq : j / d.sz < k := by rw [Nat.div_lt_iff_lt_mul hs0, ← hsz]; omega
      obtain ⟨p, hp⟩ : ∃ p, (ys.take k)[j / d.sz]? = some p := ⟨_, List.getElem?_eq_getElem (by rw [hkl]; exact hq)⟩
      obtain ⟨ad, hA, hcell⟩ := row_cells hsub hkf.f hp
      refine ⟨ad, hA, ?_⟩
      have hat := flatMap_at hkf.f.len (ys.take k) _ p hp
      have hmod : j % d.sz < d.sz := Nat.mod_lt _ hs0
      have := hcell (j % d.sz) u (by
        rw [← hat, List.getElem?_take_of_lt hmod, List.getElem?_drop, Nat.mul_comm, Nat.div_add_mod, ← hus]
        exact hj)
      rw [Nat.mul_comm, Nat.div_add_mod] at this
      exact this) hb (by simpa using hfit) (fun u hu => by
        rw [hus] at hu
        obtain ⟨y0, _, hy0⟩ := List.mem_flatMap.1 hu
        exact hkf.f.one y0 u hy0)
    have hrun : (execOp a.eval o).run P w = .ok (.value (.int .i64 (k : Int))) w' := by
      unfold execOp
      simp [ho, resolve, invoke, builtin, ex, ey, hr]
    unfold Oper.wp
    rw [hrun]
    exact hK _ _ _ _ ((hs1.set (id := id) (o1 := .raw e sz nn cap (setL vs (lo * sz) us)) hH1 hmu (hkp.mono (fun k hk => by rw [hk]; exact hown)) ⟨g, rfl, hown, by simpa using hb', by rw [setL_length]; exact hvl, hnc, hcm⟩).put (av := .o (.c (.int .i64 (k : Int)))) (dstOk_spec (hn1 ▸ hd)) rfl))
/-- append(x[:i], make(.., m)...) for which there is no room: a new row. -/
theorem x_appendZ {t tn : Nat} {n by_ : Nat} {z : Value} {kn : IntKind} {z0 : α} {j : Int} {x y : Operand} {id nid e sz nn cap lo m : Nat} {vs : List Value} [hs : TSlice P t e] [he : TElem P e n by_ z] [hti : TInt P tn kn] [hkf : KFlat d enc dec] (ho : o.op = .call { callee := .builtin .append, args := #[x, y], argTypes := #[t, tn] }) (hx : opnd σ.F x = some (.o (.s id sz 0 lo))) (hy : opnd σ.F y = some (.o (.c (.int .i64 j)))) (hj : j = (m : Int)) (hH : σ.H id = some (.raw e sz nn cap vs)) (hn : n = sz) (hsz : sz = d.sz) (hz0 : dec (z.cells.toList.map SV.c) = some z0) (hm0 : 0 < m) (hlo : lo ≤ cap) (hg : cap < lo + m) (hfit : (lo + m) * by_ ≤ 140737488355328) (hys : ys.length = lo) (hvs : vs.take (lo * sz) = ys.flatMap enc) (hid0 : o.dst = some nid) (hid : σ.D nid = false)
    (h : LX P X ops l (σ.app o.dst ⟨.o (.i nid), [(nid, some (.row d e (ys ++ List.replicate m z0)))], [(nid, true)]⟩) (fun C => K ((⟨lg ++ (look x (.o (.s id sz 0 lo)) ++ look y (.o (.c (.int .i64 j)))), [(id, .raw e sz nn cap vs)]⟩, ⟨.o (.i nid), [(nid, some (.row d e (ys ++ List.replicate m z0)))], [(nid, true)]⟩) :: C))) : LX P X ops (o :: l) σ K :=
  Lx.run (h := h) (e := ⟨.o (.i nid), [(nid, some (.row d e (ys ++ List.replicate m z0)))], [(nid, true)]⟩) hgo.1 hgo.2 (mem_app (look_fits hx) (look_fits hy)) (one_mem hH) (one_mem hid) (fun σ1 hn1 h2 h4 h3 μ ω a w hs1 K Q hK => by
    have hH1 := h4 _ List.mem_cons_self
    have hid1 : σ1.D nid = false := h3 _ List.mem_cons_self
    obtain ⟨g, hmu, hown, hb, hvl, hnc, hcm⟩ := hs1.raw hH1
    obtain ⟨_, ex⟩ := hs1.part (opnd_of hx (app_l h2)) hmu (.inl rfl)
    have ey := hs1.val (opnd_of hy (app_r h2))
    subst hj
    subst hn
    subst hsz
    have henc : z.cells.toList = enc z0 := by
      have h5 := hkf.d _ _ hz0
      have h6 := conL_consts μ z.cells.toList
      rw [h5] at h6
      exact conL_eq h6
    have hs0 : 0 < d.sz := he.n
    have hmul : lo * d.sz ≤ cap * d.sz := Nat.mul_le_mul_right _ hlo
    have htl : (vs.take (lo * d.sz)).length = lo * d.sz := by rw [List.length_take]; omega
    have hold : (Builtin.firstCells d.sz lo (.slice (some ⟨g, 0, none⟩) lo cap)).run P w.drew = .ok (vs.take (lo * d.sz)).toArray w.drew := by
      have := run_loadCells_list (P := P) w.drew ⟨g, 0, none⟩ (vs.take (lo * d.sz)) (fun j v hj => by
        have hjl := (List.getElem?_eq_some_iff.1 hj).1
        rw [add_plain, Nat.zero_add]
        show w.cell? _ = _
        rw [blk_cell hb]
        rw [List.getElem?_take_of_lt (by omega)] at hj
        simpa using hj)
      rw [htl] at this
      simp only [Builtin.firstCells]
      exact this
    rw [Nat.zero_mul, Nat.sub_zero] at ex
    have hr := run_append_grow_zeros (P := P) (ty := o.type) hs.h hti.h he.h (some ⟨g, 0, none⟩) lo cap m .i64 (vs.take (lo * d.sz)) w hold he.n he.b hm0 he.c hg hfit
    have hzc := zeroCells_eq (enc := enc) henc (by rw [he.c]; exact he.n)
    have hge := grownCap_ge w (lo + m) cap e
    have hle : lo + m ≤ 140737488355328 := Nat.le_trans (Nat.le_mul_of_pos_right _ he.b) hfit
    have hcm2 : grownCap w (lo + m) cap e ≤ maxLen := grownCap_le_maxLen w (lo + m) cap e (by simp only [maxLen]; omega)
    generalize grownCap w (lo + m) cap e = c2 at hr hge hcm2
    have hcells : ((vs.take (lo * d.sz) ++ (Builtin.zeroCells z.cells m).toList).toArray ++ Builtin.zeroCells z.cells (c2 - (lo + m))) = ((ys ++ List.replicate m z0).flatMap enc ++ (List.replicate (c2 - (lo + m)) z0).flatMap enc).toArray := by
      apply Array.ext'
      simp [hzc, hvs, List.flatMap_append]
    have hfl : ((ys ++ List.replicate m z0).flatMap enc).length = (lo + m) * d.sz := by rw [flatMap_len hkf.f.len]; simp [hys]
    have hrow := R_of_raw (d := d) (e := e) (n := lo + m) (cap := c2) (w := w.drew.alloc (.cells ((ys ++ List.replicate m z0).flatMap enc ++ (List.replicate (c2 - (lo + m)) z0).flatMap enc).toArray e)) (own := fun k => k = w.heap.size) (g := w.heap.size) (vs := (ys ++ List.replicate m z0).flatMap enc ++ (List.replicate (c2 - (lo + m)) z0).flatMap enc) (ys := ys ++ List.replicate m z0) hkf.f rfl (blk_new w.drew _) (by
      rw [List.length_append, hfl, flatMap_len hkf.f.len, List.length_replicate, ← Nat.add_mul]
      congr 1
      omega) hge hcm2 (by simp [hys]) (by rw [← hfl]; exact List.take_left' rfl)
    rw [hcells] at hr
    have hrun : (execOp a.eval o).run P w = .ok (.value (.slice (some ⟨w.heap.size, 0, none⟩) (lo + m) c2)) (w.drew.alloc (.cells ((ys ++ List.replicate m z0).flatMap enc ++ (List.replicate (c2 - (lo + m)) z0).flatMap enc).toArray e)) := by
      unfold execOp
      simp [ho, resolve, invoke, builtin, ex, ey, hr]
    unfold Oper.wp
    rw [hrun]
    have hkp : Kp w (w.drew.alloc (.cells ((ys ++ List.replicate m z0).flatMap enc ++ (List.replicate (c2 - (lo + m)) z0).flatMap enc).toArray e)) (fun _ => False) := (Kp.drew w).then_ (Kp.alloc w.drew _) (fun _ h => h.elim)
    refine hK _ _ _ _ ((hs1.new (id := nid) (o := .row d e (ys ++ List.replicate m z0)) (v := .slice (some ⟨w.heap.size, 0, none⟩) (lo + m) c2) (own := fun k => k = w.heap.size) hid1 hkp ⟨0, S_flat hkf.f hrow⟩ (fun k hk => ?_)).put (av := .o (.i nid)) (dstOk_spec (hn1 ▸ hd)) ⟨upd_same _ _ _, rfl⟩)
    subst hk
    exact ⟨Nat.le_refl _, by simp⟩)
/-- copy into a part of an own row, of cells that are known. -/
theorem Lx.copyN {t t2 : Nat} {n by_ : Nat} {z : Value} {x y : Operand} {id e lo m k m2 : Nat} {avy : AV} {ph : List (Nat × AObj)} [hs : TSlice P t e] [he : TElem P e n by_ z] (hf : Flat d enc) (ho : o.op = .call { callee := .builtin .copy, args := #[x, y], argTypes := #[t, t2] }) (hx : opnd σ.F x = some (.o (.s id d.sz lo m))) (hy : opnd σ.F y = some avy) (hH : σ.H id = some (.row d e xs)) (hph : ∀ q ∈ ph, σ.H q.1 = some q.2) (hn : n = d.sz)
    (hk : k = Nat.min m2 m) (hyl : ys.length = k) (hk0 : 0 < k) (hle : lo + m ≤ xs.length)
    (hsrc : ∀ σ1 : St, (∀ q ∈ look y avy, σ1.F q.1 = some q.2) → (∀ q ∈ ph, σ1.H q.1 = some q.2) → ∀ μ ω a w, Sat X σ1 μ ω a w → ∃ Ay c2, a.eval y = .slice Ay m2 c2 ∧ ∀ j u, (ys.flatMap enc)[j]? = some u → ∃ ad, Ay = some ad ∧ w.cell? (ad.add j) = some u)
    (h : LX P X ops l (σ.app o.dst ⟨.o (.c (.int .i64 (k : Int))), [(id, some (.row d e (xs.take lo ++ ys ++ xs.drop (lo + ys.length))))], []⟩) (fun C => K ((⟨lg ++ (look x (.o (.s id d.sz lo m)) ++ look y avy), (id, .row d e xs) :: ph⟩, ⟨.o (.c (.int .i64 (k : Int))), [(id, some (.row d e (xs.take lo ++ ys ++ xs.drop (lo + ys.length))))], []⟩) :: C))) : LX P X ops (o :: l) σ K :=
  Lx.run (h := h) (e := ⟨.o (.c (.int .i64 (k : Int))), [(id, some (.row d e (xs.take lo ++ ys ++ xs.drop (lo + ys.length))))], []⟩) hgo.1 hgo.2 (mem_app (look_fits hx) (look_fits hy)) (fun q hq => by
      rcases List.mem_cons.1 hq with rfl | hq
      · exact hH
      · exact hph q hq) no_mem (fun σ1 hn1 h2 h4 h3 μ ω a w hs1 K Q hK => by
    have hH1 : σ1.H id = some (.row d e xs) := h4 _ List.mem_cons_self
    have hkm : k ≤ m := by rw [hk]; exact Nat.min_le_right _ _
    obtain ⟨v, hv, B, hR⟩ := hs1.obj id _ hH1
    obtain ⟨g, c', cur, rfl, hown, hb, hcs, hput⟩ := R_seg (lo := lo) (ys := ys) hf (Kd.S_R hR) (by omega) (by omega) (hn ▸ he.n)
    obtain ⟨A, N, c, hm, hlc, A', ev, hA'⟩ := hs1.ev (opnd_of hx (app_l h2))
    rw [hv] at hm
    cases hm
    have hA := hA' (.inr (by omega))
    rw [Option.map_some, add_plain, Nat.zero_add] at hA
    subst hA
    obtain ⟨Ay, c2, ey, hld⟩ := hsrc σ1 (app_r h2) (fun q hq => h4 q (List.mem_cons_of_mem _ hq)) μ ω a w hs1
    have hlen : (ys.flatMap enc).length = k * d.sz := by rw [flatMap_len hf.len, hyl]
    have hmul : lo * d.sz + k * d.sz ≤ xs.length * d.sz := by rw [← Nat.add_mul]; exact Nat.mul_le_mul_right _ (by omega)
    obtain ⟨w', hr, hkp, hb'⟩ := run_copyG (P := P) (t := t) (t2 := t2) (ty := o.type) (e := e) (sz := d.sz) (g := g) (off := lo * d.sz) (m := m) (c1 := c' - lo) (c2 := c2) (Ay := Ay) (us := ys.flatMap enc) (by rw [← hn]; exact sliceT_of (z := z) (by_ := by_)) hk hlen hld hb (by omega) (fun u hu => by
      obtain ⟨y0, _, hy0⟩ := List.mem_flatMap.1 hu
      exact hf.one y0 u hy0)
    have hrun : (execOp a.eval o).run P w = .ok (.value (.int .i64 (k : Int))) w' := by
      unfold execOp
      simp [ho, resolve, invoke, builtin, ev, ey, hr]
    unfold Oper.wp
    rw [hrun]
    exact hK _ _ _ _ ((hs1.set (id := id) (o1 := .row d e (xs.take lo ++ ys ++ xs.drop (lo + ys.length))) hH1 hv (hkp.mono (fun k hk => by rw [hk]; exact hown)) ⟨B, S_flat hf (hput w' hb')⟩).put (av := .o (.c (.int .i64 (k : Int)))) (dstOk_spec (hn1 ▸ hd)) rfl))
/-- .. of a whole row. -/
theorem x_copyNv {t t2 : Nat} {n by_ : Nat} {z : Value} {x y : Operand} {id id2 e lo m : Nat} {b : AObj} [hs : TSlice P t e] [he : TElem P e n by_ z] [hkf : KFlat d enc dec] (ho : o.op = .call { callee := .builtin .copy, args := #[x, y], argTypes := #[t, t2] }) (hx : opnd σ.F x = some (.o (.s id d.sz lo m))) (hy : opnd σ.F y = some (.o (.i id2))) (hH : σ.H id = some (.row d e xs)) (hH2 : σ.H id2 = some b) (hr2 : Rdb d ys b) (hn : n = d.sz)
    (hk0 : 0 < ys.length) (hym : ys.length ≤ m) (hle : lo + m ≤ xs.length)
    (h : LX P X ops l (σ.app o.dst ⟨.o (.c (.int .i64 (ys.length : Int))), [(id, some (.row d e (xs.take lo ++ ys ++ xs.drop (lo + ys.length))))], []⟩) (fun C => K ((⟨lg ++ (look x (.o (.s id d.sz lo m)) ++ look y (.o (.i id2))), [(id, .row d e xs), (id2, b)]⟩, ⟨.o (.c (.int .i64 (ys.length : Int))), [(id, some (.row d e (xs.take lo ++ ys ++ xs.drop (lo + ys.length))))], []⟩) :: C))) : LX P X ops (o :: l) σ K :=
  Lx.copyN (m2 := ys.length) (avy := .o (.i id2)) (ph := [(id2, b)]) (h := h) hgo hd hkf.f ho hx hy hH (one_mem hH2) hn (Nat.min_eq_left hym).symm rfl hk0 hle (fun σ1 h1 h2 μ ω a w hs1 => by
    obtain ⟨A2, c2, hmu2, hlc2, hC2, ey⟩ := hr2.at_ hs1 (h2 _ List.mem_cons_self) (opnd_of hy h1)
    refine ⟨A2, c2, ey, fun j u hj => ?_⟩
    have hjl := (List.getElem?_eq_some_iff.1 hj).1
    rw [flatMap_len hkf.f.len] at hjl
    have hs0 : 0 < d.sz := hn ▸ he.n
    have hq : j / d.sz < ys.length := by rw [Nat.div_lt_iff_lt_mul hs0]; exact hjl
    obtain ⟨p, hp⟩ : ∃ p, ys[j / d.sz]? = some p := ⟨_, List.getElem?_eq_getElem hq⟩
    obtain ⟨ad, hA, hcell⟩ := row_cells hC2 hkf.f hp
    refine ⟨ad, hA, ?_⟩
    have hat := flatMap_at hkf.f.len ys _ p hp
    have hmod : j % d.sz < d.sz := Nat.mod_lt _ hs0
    have := hcell (j % d.sz) u (by
      rw [← hat, List.getElem?_take_of_lt hmod, List.getElem?_drop, Nat.mul_comm, Nat.div_add_mod]
      exact hj)
    rw [Nat.mul_comm, Nat.div_add_mod] at this
    exact this)
/-- .. of a part of an opened row. -/
theorem x_copyNR {t t2 : Nat} {n by_ : Nat} {z : Value} {x y : Operand} {id id2 e e2 sz nn cap lo m lo2 m2 : Nat} {vs : List Value} [hs : TSlice P t e] [he : TElem P e n by_ z] [hkf : KFlat d enc dec] (ho : o.op = .call { callee := .builtin .copy, args := #[x, y], argTypes := #[t, t2] }) (hx : opnd σ.F x = some (.o (.s id d.sz lo m))) (hy : opnd σ.F y = some (.o (.s id2 sz lo2 m2))) (hH : σ.H id = some (.row d e xs)) (hH2 : σ.H id2 = some (.raw e2 sz nn cap vs)) (hn : n = d.sz)
    (hym : ys.length = Nat.min m2 m) (hk0 : 0 < ys.length) (hle : lo + m ≤ xs.length) (hlo2 : lo2 < cap) (hcells : (vs.drop (lo2 * sz)).take (ys.length * d.sz) = ys.flatMap enc)
    (h : LX P X ops l (σ.app o.dst ⟨.o (.c (.int .i64 (ys.length : Int))), [(id, some (.row d e (xs.take lo ++ ys ++ xs.drop (lo + ys.length))))], []⟩) (fun C => K ((⟨lg ++ (look x (.o (.s id d.sz lo m)) ++ look y (.o (.s id2 sz lo2 m2))), [(id, .row d e xs), (id2, .raw e2 sz nn cap vs)]⟩, ⟨.o (.c (.int .i64 (ys.length : Int))), [(id, some (.row d e (xs.take lo ++ ys ++ xs.drop (lo + ys.length))))], []⟩) :: C))) : LX P X ops (o :: l) σ K :=
  Lx.copyN (m2 := m2) (avy := .o (.s id2 sz lo2 m2)) (ph := [(id2, .raw e2 sz nn cap vs)]) (h := h) hgo hd hkf.f ho hx hy hH (one_mem hH2) hn hym rfl hk0 hle (fun σ1 h1 h2 μ ω a w hs1 => by
    obtain ⟨g, hmu, hown, hb, hvl, hnc, hcm⟩ := hs1.raw (h2 _ List.mem_cons_self)
    obtain ⟨_, ey⟩ := hs1.part (opnd_of hy h1) hmu (.inr hlo2)
    refine ⟨_, _, ey, fun j u hj => ⟨_, rfl, ?_⟩⟩
    rw [add_plain, blk_cell hb]
    have hjl := (List.getElem?_eq_some_iff.1 hj).1
    rw [flatMap_len hkf.f.len] at hjl
    rw [← hcells, List.getElem?_take_of_lt hjl, List.getElem?_drop] at hj
    simpa using hj)
/-- slices.overlaps of an own row and of an opened one. -/
theorem x_overlaps {f e : Nat} {x y : Operand} {ts : Array TypeId} {id id2 sz e2 sz2 nn cap lo m : Nat} {vs : List Value} (ho : o.op = .call { callee := .value (.func f), args := #[x, y], argTypes := ts }) (hx : opnd σ.F x = some (.o (.i id))) (hy : opnd σ.F y = some (.o (.s id2 sz lo m))) (hH : σ.H id = some (.row d e2 ys)) (hH2 : σ.H id2 = some (.raw e sz2 nn cap vs)) (hsz : sz = sz2) (hne : Nat.beq id id2 = false) (hlo : lo < cap) (hsz0 : 0 < sz2) (hys : 0 < ys.length)
    (hrun : ∀ (w : World) (a b : Addr) (la ca lb cb : Nat), a.block ≠ b.block → ∀ (tA tB : TypeId) (kA kB : Nat), w.shape? a.block = some (tA, kA) → w.shape? b.block = some (tB, kB) → kB ≠ 0 → w.frozen? a = false → w.frozen? { block := a.block, off := kA } = false → (callFunc f #[.slice (some a) la ca, .slice (some b) lb cb]).run P w = .ok (.value (.bool false)) w)
    (h : LX P X ops l (σ.app o.dst ⟨.o (.c (.bool false)), [], []⟩) (fun C => K ((⟨lg ++ (look x (.o (.i id)) ++ look y (.o (.s id2 sz lo m))), [(id, .row d e2 ys), (id2, .raw e sz2 nn cap vs)]⟩, ⟨.o (.c (.bool false)), [], []⟩) :: C))) : LX P X ops (o :: l) σ K :=
  Lx.val (h := h) hgo.1 hgo.2 hd (mem_app (look_fits hx) (look_fits hy)) (two_mem hH hH2) (fun σ1 h1 h2 μ ω a w hs1 => by
    subst hsz
    have hH1 : σ1.H id = some (.row d e2 ys) := h2 (id, .row d e2 ys) List.mem_cons_self
    have hH3 : σ1.H id2 = some (.raw e sz nn cap vs) := h2 (id2, .raw e sz nn cap vs) (by simp)
    obtain ⟨g, hmu, hown, hb, hvl, hnc, hcm⟩ := hs1.raw hH3
    obtain ⟨_, ey⟩ := hs1.part (opnd_of hy (app_r h1)) hmu (.inr hlo)
    obtain ⟨v, hv, B, hR⟩ := hs1.obj id _ hH1
    have ex := (hs1.ev (opnd_of hx (app_l h1))).1
    rw [hv] at ex
    injection ex with ex
    obtain ⟨h0, inner, hwo, hr⟩ := Kd.S_R hR
    rcases hwo.2 with ⟨_, h5⟩ | ⟨g2, cap2, cur, e1, hg, hh, hc, hm, hs, ht⟩
    · omega
    · subst e1
      have hg2 : ω id g2 := h0 g2 rfl
      have hgne : g2 ≠ g := fun e => by
        subst e
        exact hs1.sep id id2 _ _ hH1 hH3 (fun e => by subst e; simp at hne) g2 hg2 hown
      refine ⟨.bool false, ?_, rfl⟩
      have hcap : 0 < cap * sz := Nat.mul_pos (by omega) hsz0
      have hR := hrun w ⟨g2, 0, none⟩ ⟨g, lo * sz, none⟩ ys.length cap2 m (cap - lo) hgne e2 e cur.size vs.length (by simp [World.shape?, hh]) (by simp [World.shape?, hb]) (by omega) (blk_frozen hh _) (blk_frozen hh _)
      unfold execOp
      simp [ho, resolve, Deferred.ofValue, invoke, Act.eval]
      have hR' : (callFunc f #[a.eval x, a.eval y]).run P w = .ok (.value (.bool false)) w := by rw [← ex, ey]; exact hR
      simpa [Act.eval] using hR')
end
end
/-- The cells of an insertion in place. -/
theorem ins_cells {α : Type} {enc : α → List Value} {sz : Nat} (h : ∀ x, (enc x).length = sz) (l v : List α) (rest : List Value) (i : Nat) (hi : i ≤ l.length) (hc : (l.length + v.length) * sz ≤ (l.flatMap enc ++ rest).length) :
    (setL (setL (l.flatMap enc ++ rest) ((i + v.length) * sz) (((l.flatMap enc ++ rest).drop (i * sz)).take ((l.length - i) * sz))) (i * sz) (v.flatMap enc)).take ((l.length + v.length) * sz) = (l.take i ++ v ++ l.drop i).flatMap enc := by
  have hl := flatMap_len h l
  have hv := flatMap_len h v
  have hd := flatMap_len h (l.drop i)
  have ht := flatMap_len h (l.take i)
  rw [List.length_drop] at hd
  rw [List.length_take, Nat.min_eq_left hi] at ht
  have hsplit : l.flatMap enc = (l.take i).flatMap enc ++ (l.drop i).flatMap enc := by rw [← List.flatMap_append, List.take_append_drop]
  have e1 : ((l.flatMap enc ++ rest).drop (i * sz)).take ((l.length - i) * sz) = (l.drop i).flatMap enc := by
    rw [hsplit, List.append_assoc, List.drop_left' ht, List.take_left' hd]
  have m1 : i * sz + v.length * sz = (i + v.length) * sz := (Nat.add_mul _ _ _).symm
  have m2 : (i + v.length) * sz + (l.length - i) * sz = (l.length + v.length) * sz := by rw [← Nat.add_mul]; congr 1; omega
  have hA := setL_eq ((l.drop i).flatMap enc) (l.flatMap enc ++ rest) ((i + v.length) * sz) (by rw [hd, m2]; exact hc)
  rw [hd, m2] at hA
  have m3 : (i + v.length) * sz ≤ (l.length + v.length) * sz := Nat.mul_le_mul_right _ (by omega)
  rw [e1, hA, setL_eq _ _ _ (by
    rw [List.length_append, List.length_append, List.length_take, List.length_drop, hv, hd]
    omega), hv, m1]
  have e2 : ((l.flatMap enc ++ rest).take ((i + v.length) * sz) ++ (l.drop i).flatMap enc ++ (l.flatMap enc ++ rest).drop ((l.length + v.length) * sz)).take (i * sz) = (l.take i).flatMap enc := by
    rw [List.append_assoc, List.take_append_of_le_length (by rw [List.length_take]; omega), List.take_take, Nat.min_eq_left (by omega), hsplit, List.append_assoc, List.take_left' ht]
  have e3 : ((l.flatMap enc ++ rest).take ((i + v.length) * sz) ++ (l.drop i).flatMap enc ++ (l.flatMap enc ++ rest).drop ((l.length + v.length) * sz)).drop ((i + v.length) * sz) = (l.drop i).flatMap enc ++ (l.flatMap enc ++ rest).drop ((l.length + v.length) * sz) := by
    rw [List.append_assoc, List.drop_left' (by rw [List.length_take]; exact Nat.min_eq_left (by omega))]
  rw [e2, e3, List.flatMap_append, List.flatMap_append, ← List.append_assoc]
  exact List.take_left' (by simp only [List.length_append, ht, hv, hd]; omega)
theorem ins_row {α : Type} (l v : List α) (i : Nat) (z : α) (hi : i ≤ l.length) : ((l.take i ++ List.replicate (l.length + v.length - i) z).take i ++ v ++ (l.take i ++ List.replicate (l.length + v.length - i) z).drop (i + v.length)).take (i + v.length) ++ l.drop i ++ ((l.take i ++ List.replicate (l.length + v.length - i) z).take i ++ v ++ (l.take i ++ List.replicate (l.length + v.length - i) z).drop (i + v.length)).drop (i + v.length + (l.drop i).length) = l.take i ++ v ++ l.drop i := by
  have ht : (l.take i).length = i := by rw [List.length_take]; omega
  have h1 : (l.take i ++ List.replicate (l.length + v.length - i) z).take i = l.take i := List.take_left' ht
  rw [h1]
  have h2 : (l.take i ++ v).length = i + v.length := by rw [List.length_append, ht]
  rw [List.take_left' h2, List.append_right_eq_self]
  refine List.drop_of_length_le ?_
  simp
  omega
end Go.Proofs.Ytplcjkgbjapbmaa.C
