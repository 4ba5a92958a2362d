/- FnExactSameShard: the program's SameShard holds of the two shards of which the reference's holds, and leaves them alone: for all shards. -/
import Derived.Test.YtengkenhmnpbeaaPFnExactSameShardx
import Derived.Test.YtengkenhmnpbeaaKit
namespace Go.Proofs.Ytengkenhmnpbeaa.Pure
open Go.RowKit Go.Proofs.Ytengkenhmnpbeaa.PFnExactSameShard Go.Proofs.YtengkenhmnpbeaaW.PrintWords Go.Proofs.YtengkenhmnpbeaaW.PrintLast Go.Proofs.Ytengkenhmnpbeaa.Kit
set_option linter.unusedVariables false
set_option linter.unusedSimpArgs false

theorem rdAgg_at {xs : List S84} {i : Nat} (h : i < xs.length) : rd_T84 xs (i : Int) = xs[i] := by
  simp [rd_T84, List.getD_eq_getElem?_getD, List.getElem?_eq_getElem h]
theorem rdAgg_set {xs : List S84} {i : Nat} (h : i < xs.length) (v : S84) : rd_T84 (xs.set i v) (i : Int) = v := by
  rw [rdAgg_at (by simpa using h)]
  simp

theorem rdLAgg_at {xs : List S116} {i : Nat} (h : i < xs.length) : rd_T116 xs (i : Int) = xs[i] := by
  simp [rd_T116, List.getD_eq_getElem?_getD, List.getElem?_eq_getElem h]
def cvAgg (x : S116) : S84 := ⟨x.f0, x.f1, x.f2, x.f3, x.f4, x.f5⟩
theorem toAggS_l0 (l : List S116) (hl : l.length ≤ 9223372036854775807) : ∀ (d i : Nat) (x : List S84), i + d = l.length → x.length = (l.map cvAgg).length → x.take i = (l.map cvAgg).take i →
    Evt fun k => laws_toAggS.l0 k l x (i : Int) = some (l.map cvAgg) := by
  intro d
  induction d with
  | zero =>
    intro i x h hx ht
    refine Evt.step0 fun k => ?_
    rw [laws_toAggS.l0, if_neg (by omega), fill_end hx (by simp; omega) ht]
  | succ d ih =>
    intro i x h hx ht
    have hi : i < l.length := by omega
    obtain ⟨h1, h2⟩ := fill_step (v := cvAgg l[i]) hx (by simpa using hi) ht (by simp)
    have hxl : (i : Int) < (x.length : Int) := by rw [hx, List.length_map]; omega
    refine (ih (i + 1) (x.set i (cvAgg l[i])) (by omega) h1 h2).step fun k hk => ?_
    rw [laws_toAggS.l0, if_pos (ilt hi), if_pos (i0 i), rdLAgg_at hi]
    simp only [laws_toAgg.f, Option.bind_some, Int.toNat_natCast]
    rw [if_pos hxl, wrap_nat hi hl]
    exact hk
theorem toAggS_ev (l : List S116) (hl : l.length ≤ 1048576) : Evt fun k => laws_toAggS.f k l = some (l.map cvAgg) := by
  refine (toAggS_l0 l (by omega) l.length 0 (List.replicate l.length z84) (by omega) (by simp) (by simp)).map fun k hk => ?_
  rw [laws_toAggS.f, if_pos (by omega), if_pos (by omega)]
  exact hk

theorem eqAgg_refl (x : S84) : laws_eqAgg.f x.f0 x.f1 x.f2 x.f3 x.f4 x.f5 x.f0 x.f1 x.f2 x.f3 x.f4 x.f5 = some true := by simp [laws_eqAgg.f]
theorem eqAggS_l0 (l : List S84) (hl : l.length ≤ 9223372036854775807) : ∀ (d i : Nat), i + d = l.length → Evt fun k => laws_eqAggS.l0 k l l (i : Int) = some true := by
  intro d
  induction d with
  | zero =>
    intro i h
    refine Evt.step0 fun k => ?_
    rw [laws_eqAggS.l0, if_neg (by omega)]
  | succ d ih =>
    intro i h
    have hi : i < l.length := by omega
    refine (ih (i + 1) (by omega)).step fun k hk => ?_
    rw [laws_eqAggS.l0, if_pos (ilt hi), if_pos (i0 i), if_pos (ilt hi), eqAgg_refl]
    simp only [Option.bind_some, if_true]
    rw [wrap_nat hi hl]
    exact hk
theorem eqAggS_ev (l : List S84) (hl : l.length ≤ 9223372036854775807) : Evt fun k => laws_eqAggS.f k l l = some true :=
  (eqAggS_l0 l hl l.length 0 (by omega)).map fun k hk => by rw [laws_eqAggS.f, if_pos rfl]; exact hk
theorem szAggS_eq (l : List S116) (n : Int) (hn : 0 ≤ n ∧ n ≤ 1048576) (hl : l.length ≤ 9223372036854775807) : laws_szAggS.f l n = some (if n - (l.length : Int) < 0 then -1 else n - (l.length : Int)) := by
  have hw : wrap64 (n - (l.length : Int)) = n - (l.length : Int) := wrap_in (by omega) (by omega)
  unfold laws_szAggS.f
  rw [hw]
  by_cases h : n - (l.length : Int) < 0 <;> simp [h]
theorem szShard_eq (l : List S116) (a b c n : Int) (hn : 0 ≤ n ∧ n ≤ 1048576) (hl : l.length ≤ 9223372036854775807) : laws_szShard.f l a b c n = some (if n - (l.length : Int) < 0 then -1 else n - (l.length : Int)) := by
  unfold laws_szShard.f
  rw [szAggS_eq l n hn hl]
  by_cases h : n - (l.length : Int) < 0 <;> simp [h]

theorem toShard_ev (l : List S116) (a b c : Int) (hl : l.length ≤ 1048576) : Evt fun k => laws_toShard.f k l a b c = some (l.map cvAgg, a, b, c) :=
  (toAggS_ev l hl).map fun k h => by simp only [laws_toShard.f, h, Option.bind_some]
theorem eqShard_ev (l : List S84) (a b c : Int) (hl : l.length ≤ 1048576) : Evt fun k => laws_eqShard.f k l a b c l a b c = some true :=
  (eqAggS_ev l (by omega)).map fun k h => by simp [laws_eqShard.f, h]
/-- Two aggregates that are not the same. -/
def neB (x y : S84) : Bool := (!(x.f0 == y.f0) || (!(x.f1 == y.f1) || (!(x.f2 == y.f2) || (!(x.f3 == y.f3) || (!(x.f4 == y.f4) || (!(x.f5 == y.f5)))))))
/-- No two at one place differ. -/
def likeB (l m : List S84) : Bool := (l.zip m).all fun p => !neB p.1 p.2
theorem likeB_cons (x y : S84) (l m : List S84) : likeB (x :: l) (y :: m) = (!neB x y && likeB l m) := rfl
theorem spec_SameShard_l0 (l m : List S84) (a b c a' b' c' : Int) (hm : l.length = m.length) (hl : l.length ≤ 1048576) : ∀ (d i : Nat), i + d = l.length → Evt fun k => spec_SameShard.l0 k (i : Int) l a b c m a' b' c' = some (likeB (l.drop i) (m.drop i)) := by
  intro d
  induction d with
  | zero =>
    intro i h
    refine Evt.step0 fun k => ?_
    rw [spec_SameShard.l0, if_neg (by omega), List.drop_of_length_le (by omega)]
    rfl
  | succ d ih =>
    intro i h
    have hi : i < l.length := by omega
    have hj : i < m.length := by omega
    refine (ih (i + 1) (by omega)).step fun k hk => ?_
    rw [spec_SameShard.l0, if_pos (ilt hi), if_pos (i0 i), if_pos (ilt hj), rdAgg_at hi, rdAgg_at hj, wrap_nat hi (by omega), hk, drop_at hi, drop_at hj, likeB_cons]
    change (if neB l[i] m[i] = true then some false else some (likeB (l.drop (i + 1)) (m.drop (i + 1)))) = _
    cases neB l[i] m[i] <;> rfl
theorem slices_Equal_l0 (l m : List S84) (hm : l.length = m.length) (hl : l.length ≤ 1048576) : ∀ (d i : Nat), i + d = l.length → Evt fun k => slices_Equal_impl_Agg_impl_Agg.l0 k l m (l.length : Int) (i : Int) = some (likeB (l.drop i) (m.drop i)) := by
  intro d
  induction d with
  | zero =>
    intro i h
    refine Evt.step0 fun k => ?_
    rw [slices_Equal_impl_Agg_impl_Agg.l0, if_neg (by omega), List.drop_of_length_le (by omega)]
    rfl
  | succ d ih =>
    intro i h
    have hi : i < l.length := by omega
    have hj : i < m.length := by omega
    refine (ih (i + 1) (by omega)).step fun k hk => ?_
    rw [slices_Equal_impl_Agg_impl_Agg.l0, if_pos (ilt hi), if_pos (i0 i), if_pos (ilt hi), if_pos (ilt hj), rdAgg_at hi, rdAgg_at hj, wrap_nat hi (by omega), hk, drop_at hi, drop_at hj, likeB_cons]
    change (if neB l[i] m[i] = true then some false else some (likeB (l.drop (i + 1)) (m.drop (i + 1)))) = _
    cases neB l[i] m[i] <;> rfl
/-- The same shard. -/
def sameB (l : List S84) (a b c : Int) (m : List S84) (a' b' c' : Int) : Bool :=
  decide (a = a') && (decide (b = b') && (decide (c = c') && (decide (l.length = m.length) && likeB l m)))
theorem spec_SameShard_ev (l m : List S84) (a b c a' b' c' : Int) (hl : l.length ≤ 1048576) : Evt fun k => spec_SameShard.f k l a b c m a' b' c' = some (sameB l a b c m a' b' c') := by
  have hf : ∀ k, spec_SameShard.j0 (k + 1) true l a b c m a' b' c' = some false := fun k => by rw [spec_SameShard.j0, if_pos rfl]
  by_cases hm : l.length = m.length
  · refine (spec_SameShard_l0 l m a b c a' b' c' hm hl l.length 0 (by omega)).step fun k hk => ?_
    have hk' : spec_SameShard.l0 k 0 l a b c m a' b' c' = some (likeB l m) := hk
    have ht : spec_SameShard.j0 (k + 1) false l a b c m a' b' c' = some (likeB l m) := by rw [spec_SameShard.j0, if_neg (by simp), hk']
    have hn : ((l.length : Int) != (m.length : Int)) = false := by simp [hm]
    unfold spec_SameShard.f sameB
    rw [hn, ht, hf]
    by_cases ha : a = a' <;> by_cases hb : b = b' <;> by_cases hc : c = c' <;> simp [ha, hb, hc, hm]
  · refine Evt.step0 fun k => ?_
    have hn : ((l.length : Int) != (m.length : Int)) = true := by
      simp only [bne_iff_ne, ne_eq]
      omega
    unfold spec_SameShard.f sameB
    rw [hn, hf]
    simp [hm]
theorem impl_SameShard_ev (l m : List S84) (a b c a' b' c' : Int) (hl : l.length ≤ 1048576) : Evt fun k => impl_SameShard.f k l a b c m a' b' c' = some (sameB l a b c m a' b' c') := by
  by_cases hm : l.length = m.length
  · refine (slices_Equal_l0 l m hm hl l.length 0 (by omega)).map fun k hk => ?_
    have hk' : slices_Equal_impl_Agg_impl_Agg.f k l m = some (likeB l m) := by
      unfold slices_Equal_impl_Agg_impl_Agg.f
      rw [if_pos (by omega)]
      exact hk
    unfold impl_SameShard.f sameB
    rw [hk']
    by_cases ha : a = a' <;> by_cases hb : b = b' <;> by_cases hc : c = c' <;> simp [ha, hb, hc, hm]
  · refine Evt.of fun k => ?_
    have hk' : slices_Equal_impl_Agg_impl_Agg.f k l m = some false := by
      unfold slices_Equal_impl_Agg_impl_Agg.f
      rw [if_neg (by omega)]
    unfold impl_SameShard.f sameB
    rw [hk']
    by_cases ha : a = a' <;> by_cases hb : b = b' <;> by_cases hc : c = c' <;> simp [ha, hb, hc, hm]
theorem FnExactSameShard (x0 x1 : List S116 × Int × Int × Int) (w0 : Kit.AllOf (fun x : S116 => I64 x.f0 ∧ I64 x.f1 ∧ I64 x.f2 ∧ I64 x.f3 ∧ I64 x.f4 ∧ I64 x.f5) x0.1 ∧ (Kit.I64 x0.2.1 ∧ (Kit.I64 x0.2.2.1 ∧ Kit.I64 x0.2.2.2))) (w1 : Kit.AllOf (fun x : S116 => I64 x.f0 ∧ I64 x.f1 ∧ I64 x.f2 ∧ I64 x.f3 ∧ I64 x.f4 ∧ I64 x.f5) x1.1 ∧ (Kit.I64 x1.2.1 ∧ (Kit.I64 x1.2.2.1 ∧ Kit.I64 x1.2.2.2))) :
    ∃ k, laws_FnExactSameShard.f k x0.1 x0.2.1 x0.2.2.1 x0.2.2.2 x1.1 x1.2.1 x1.2.2.1 x1.2.2.2 = some true := by
  obtain ⟨l, a, b, c⟩ := x0
  obtain ⟨m, a', b', c'⟩ := x1
  have hr := szShard_eq l a b c 1048576 (by omega) w0.1.1
  by_cases hneg : (1048576 : Int) - (l.length : Int) < 0
  · exact ⟨0, by simp only [laws_FnExactSameShard.f, hr, Option.bind_some, if_pos hneg]; simp⟩
  have hs := szShard_eq m a' b' c' (1048576 - (l.length : Int)) (by omega) w1.1.1
  by_cases hneg2 : (1048576 : Int) - (l.length : Int) - (m.length : Int) < 0
  · exact ⟨0, by simp only [laws_FnExactSameShard.f, hr, if_neg hneg, Option.bind_some, hs, if_pos hneg2]; simp⟩
  have hl : l.length ≤ 1048576 := by omega
  have hm : m.length ≤ 1048576 := by omega
  have hl' : (l.map cvAgg).length ≤ 1048576 := by simpa using hl
  have hm' : (m.map cvAgg).length ≤ 1048576 := by simpa using hm
  obtain ⟨k, h1, h2, h3, h4, h5, h6⟩ := ((toShard_ev l a b c hl).and ((toShard_ev m a' b' c' hm).and ((spec_SameShard_ev (l.map cvAgg) (m.map cvAgg) a b c a' b' c' hl').and ((impl_SameShard_ev (l.map cvAgg) (m.map cvAgg) a b c a' b' c' hl').and ((eqShard_ev (l.map cvAgg) a b c hl').and (eqShard_ev (m.map cvAgg) a' b' c' hm')))))).ex
  refine ⟨k, ?_⟩
  simp only [laws_FnExactSameShard.f, hr, hs, if_neg hneg, if_neg hneg2, Option.bind_some, h1, h2, h3, h4, h5, h6, if_true]
  simp
end Go.Proofs.Ytengkenhmnpbeaa.Pure
