import Derived.Test.YtplcjkgbjapbmaaUp
import Derived.Test.YtplcjkgbjapbmaaPSb
import Derived.Test.YtplcjkgbjapbmaaPPl
import Derived.Test.YtplcjkgbjapbmaaPSa
import Derived.Test.YtplcjkgbjapbmaaUAxh
namespace Go.Proofs.Ytplcjkgbjapbmaa.C
open Go.RowKit Go.Proofs.YtplcjkgbjapbmaaW Go.Proofs.YtplcjkgbjapbmaaW.PrintWords Go.Proofs.Ytplcjkgbjapbmaa.U
set_option maxHeartbeats 1000000
set_option maxRecDepth 100000
set_option linter.unusedVariables false
set_option linter.unusedSimpArgs false
/-! The place of an element in a list that rises. -/
section
variable {α : Type}
def posG (lt : α → α → Bool) (a : α) : List α → Nat
  | [] => 0
  | y :: L => if lt y a then posG lt a L + 1 else 0
theorem posG_le (lt : α → α → Bool) (a : α) : ∀ L : List α, posG lt a L ≤ L.length
  | [] => Nat.le_refl _
  | y :: L => by
    rw [posG]
    split
    · have := posG_le lt a L
      rw [List.length_cons]
      omega
    · exact Nat.zero_le _
theorem posG_eq {lt : α → α → Bool} {a : α} : ∀ {L : List α} {i : Nat}, i ≤ L.length → (∀ j x, j < i → L[j]? = some x → lt x a = true) → (∀ x, L[i]? = some x → lt x a = false) → posG lt a L = i
  | [], i, h, _, _ => by have : i = 0 := by simpa using h
                         rw [this]
                         rfl
  | y :: L, 0, _, _, h2 => by rw [posG, h2 y rfl]; rfl
  | y :: L, i + 1, h, h1, h2 => by
    rw [posG, h1 0 y (Nat.succ_pos _) rfl, posG_eq (L := L) (i := i) (by simpa using h) (fun j x hj hx => h1 (j + 1) x (by omega) (by simpa using hx)) (fun x hx => h2 x (by simpa using hx))]
    rfl
theorem posG_lo {lt : α → α → Bool} {a : α} : ∀ {L : List α} {j : Nat} {x : α}, j < posG lt a L → L[j]? = some x → lt x a = true
  | [], _, _, h, _ => by simp [posG] at h
  | y :: L, 0, x, h, hx => by
    have : y = x := by simpa using hx
    subst this
    rw [posG] at h
    split at h
    · assumption
    · omega
  | y :: L, j + 1, x, h, hx => by
    rw [posG] at h
    split at h
    · exact posG_lo (L := L) (j := j) (by omega) (by simpa using hx)
    · omega
theorem posG_at {lt : α → α → Bool} {a : α} : ∀ {L : List α} {x : α}, L[posG lt a L]? = some x → lt x a = false
  | [], _, h => by simp at h
  | y :: L, x, h => by
    rw [posG] at h
    split at h
    · exact posG_at (L := L) (by simpa using h)
    · rename_i hn
      have : y = x := by simpa using h
      subst this
      simpa using hn
def hitG (lt : α → α → Bool) (a : α) (L : List α) : Bool := match L[posG lt a L]? with | some x => !lt a x | none => false
theorem hitG_at {lt : α → α → Bool} {a : α} {L : List α} (h : hitG lt a L = true) : ∃ x, L[posG lt a L]? = some x ∧ lt a x = false ∧ lt x a = false := by
  unfold hitG at h
  cases hx : L[posG lt a L]? with
  | none => rw [hx] at h; cases h
  | some x => rw [hx] at h; exact ⟨x, rfl, by simpa using h, posG_at hx⟩
theorem hitG_no {lt : α → α → Bool} {a x : α} {L : List α} (h : hitG lt a L = false) (hx : L[posG lt a L]? = some x) : lt a x = true := by
  unfold hitG at h
  rw [hx] at h
  simpa using h
/-- putting in, at its place -/
theorem insL_pos {lt : α → α → Bool} (hw : Wo lt) {a : α} : ∀ {L : List α}, hitG lt a L = false → insL lt a L = L.take (posG lt a L) ++ [a] ++ L.drop (posG lt a L)
  | [], _ => rfl
  | y :: L, h => by
    cases hy : lt y a with
    | true =>
      have hp : posG lt a (y :: L) = posG lt a L + 1 := by rw [posG, hy]; rfl
      have h2 : hitG lt a L = false := by unfold hitG at h ⊢; rw [hp] at h; simpa using h
      rw [insL, if_neg (by rw [hw.asym _ _ hy]; decide), insL_pos hw h2, hp]
      rfl
    | false =>
      have hp : posG lt a (y :: L) = 0 := by rw [posG, hy]; rfl
      have h2 : lt a y = true := hitG_no h (by rw [hp]; rfl)
      rw [insL, if_pos h2, hp]
      rfl
/-- in a list that rises strictly only the place itself can hit -/
theorem only_at {lt : α → α → Bool} (hw : Wo lt) {a x : α} {L : List α} (hs : ∀ (i j : Nat) y z, i < j → L[i]? = some y → L[j]? = some z → lt y z = true) {j : Nat} (hx : L[j]? = some x) (h1 : lt a x = false) (h2 : lt x a = false) : j = posG lt a L ∧ hitG lt a L = true := by
  have hp : posG lt a L = j := posG_eq (Nat.le_of_lt (List.getElem?_eq_some_iff.1 hx).1) (fun i y hi hy => by
    have h3 := hs i j y x hi hy hx
    cases h4 : lt y a with
    | true => rfl
    | false =>
      have := hw.ntrans y a x h4 h1
      rw [h3] at this
      cases this) (fun z hz => by rw [hx] at hz; cases hz; exact h2)
  refine ⟨hp.symm, ?_⟩
  unfold hitG
  rw [hp, hx]
  simpa using h1
end
structure Shd where
  aggs : List Agg
  mark : Int
  late : Int
  over : Int
instance : Inhabited Shd := ⟨⟨[], 0, 0, 0⟩⟩
def capS (n : Int) : Int := min (max n (-1000000000)) 1000000000
def mergeA (a b : Agg) : Agg := ⟨a.win, a.key, capS (a.count + b.count), capS (a.sum + b.sum), min a.min b.min, max a.max b.max⟩
def AggBd (a : Agg) : Prop := (0 ≤ a.count ∧ a.count ≤ 1000000000) ∧ (-1000000000 ≤ a.sum ∧ a.sum ≤ 1000000000)
def oneOf (f : Frame) (size : Int) : Agg := ⟨f.time / size, f.key, 1, f.value, f.value, f.value⟩
def okS (s : Shd) : Bool := okShard s.aggs s.mark s.late s.over
def evOk (s : Shd) (size room : Int) (f : Frame) : Bool := okS s && (inB size 1 1000000 && (inB room 1 40 && okEv f))
def setG (a : Agg) (l : List Agg) : List Agg := l.set (posG aggLt a l) (mergeA ((l[posG aggLt a l]?).getD a) a)
def addEv (s : Shd) (size room : Int) (f : Frame) : Shd × Int :=
  if evOk s size room f = false then (s, 3)
  else if (f.time / size + 1) * size - 1 ≤ s.mark then ({ s with late := capS (s.late + 1) }, 1)
  else if hitG aggLt (oneOf f size) s.aggs then ({ s with aggs := setG (oneOf f size) s.aggs }, 0)
  else if room ≤ (s.aggs.length : Int) then ({ s with over := capS (s.over + 1) }, 2)
  else ({ s with aggs := insL aggLt (oneOf f size) s.aggs }, 0)
def rmOk (s : Shd) (k : Int) : Bool := okS s && (inB k (-1) 1000000 && decide (s.mark < k))
def raiseMk (s : Shd) (k : Int) : Shd := if rmOk s k then { s with mark := k } else s
theorem aggLt_wo : Wo aggLt where
  asym x y h := by
    unfold aggLt at h ⊢
    simp only [decide_eq_true_iff, decide_eq_false_iff_not] at h ⊢
    omega
  ntrans x y z h1 h2 := by
    unfold aggLt at h1 h2 ⊢
    simp only [decide_eq_false_iff_not] at h1 h2 ⊢
    omega
def Strict (l : List Agg) : Prop := ∀ (i j : Nat) y z, i < j → l[i]? = some y → l[j]? = some z → aggLt y z = true
theorem strict_of {l : List Agg} (h : sortedB aggLt l = true) : Strict l := by
  have h1 := (sortedB_iff _ _).1 h
  intro i j y z hij hy hz
  obtain ⟨d, rfl⟩ : ∃ d, j = i + 1 + d := ⟨j - (i + 1), by omega⟩
  clear hij
  induction d generalizing z with
  | zero => exact h1 i y z hy hz
  | succ d ih =>
    obtain ⟨x, hx⟩ := elt (l := l) (k := i + 1 + d) (by have := (List.getElem?_eq_some_iff.1 hz).1; omega)
    exact aggLt_wo.trans (ih x hx) (h1 (i + 1 + d) x z hx hz)
theorem okS_bd {s : Shd} (h : okS s = true) : s.aggs.length ≤ 40 ∧ (-1 ≤ s.mark ∧ s.mark ≤ 1000000) ∧ (0 ≤ s.late ∧ s.late ≤ 1000000000) ∧ (0 ≤ s.over ∧ s.over ≤ 1000000000) ∧ (∀ a ∈ s.aggs, okAgg a = true) ∧ Strict s.aggs := by
  unfold okS okShard at h
  simp only [Bool.and_eq_true, inB_iff, decide_eq_true_iff, List.all_eq_true] at h
  exact ⟨h.1, h.2.1, h.2.2.1, h.2.2.2.1, h.2.2.2.2.1, strict_of h.2.2.2.2.2⟩
theorem okAgg_AggBd {a : Agg} (h : okAgg a = true) : AggBd a := by
  unfold okAgg at h
  simp only [Bool.and_eq_true, inB_iff] at h
  exact ⟨by omega, h.2.2.2.1⟩
theorem okEv_bd {f : Frame} (h : okEv f = true) : f.kind = 1 ∧ (0 ≤ f.key ∧ f.key ≤ 65535) ∧ (0 ≤ f.time ∧ f.time ≤ 1000000) ∧ (-1000000 ≤ f.value ∧ f.value ≤ 1000000) := by
  unfold okEv okFrame at h
  rw [Bool.and_eq_true, decide_eq_true_iff] at h
  obtain ⟨h1, h2⟩ := h
  rw [if_pos h2] at h1
  simp only [Bool.and_eq_true, inB_iff] at h1
  exact ⟨h2, h1.1, h1.2.1, h1.2.2⟩
theorem oneOf_bd {f : Frame} (h : okEv f = true) (size : Int) : AggBd (oneOf f size) := by
  obtain ⟨_, _, _, h4⟩ := okEv_bd h
  exact ⟨⟨by show (0 : Int) ≤ 1; decide, by show (1 : Int) ≤ 1000000000; decide⟩, by show -1000000000 ≤ f.value; omega, by show f.value ≤ 1000000000; omega⟩
theorem time_bd {f : Frame} {size : Int} (h : okEv f = true) (hs : 1 ≤ size ∧ size ≤ 1000000) : 0 ≤ f.time / size ∧ f.time / size ≤ 1000000 := by
  obtain ⟨_, _, h3, _⟩ := okEv_bd h
  have h5 : f.time / size ≤ f.time := Int.ediv_le_self _ h3.1
  exact ⟨Int.ediv_nonneg h3.1 (by omega), by omega⟩
theorem mul_bd {w size : Int} (hw : 0 ≤ w ∧ w ≤ 1000000) (hs : 1 ≤ size ∧ size ≤ 1000000) : 0 ≤ (w + 1) * size ∧ (w + 1) * size ≤ 2000000000000 := by
  refine ⟨Int.mul_nonneg (by omega) (by omega), ?_⟩
  have h1 : (w + 1) * size ≤ 2000000 * 1000000 := Int.mul_le_mul (by omega) hs.2 (by omega) (by decide)
  omega
def putG (a : Agg) (l : List Agg) : List Agg := if hitG aggLt a l then setG a l else insL aggLt a l
theorem putG_no {a : Agg} {l : List Agg} (h : hitG aggLt a l = false) : putG a l = l.take (posG aggLt a l) ++ [a] ++ l.drop (posG aggLt a l) := by rw [putG, h, ← insL_pos aggLt_wo h]; rfl
theorem putG_hit {a x : Agg} {l : List Agg} (h : hitG aggLt a l = true) (hx : l[posG aggLt a l]? = some x) : putG a l = l.set (posG aggLt a l) (mergeA x a) := by rw [putG, h, setG, hx]; rfl
theorem addEv_bad {s : Shd} {size room : Int} {f : Frame} (h : evOk s size room f = false) : addEv s size room f = (s, 3) := by rw [addEv, if_pos h]
theorem addEv_late {s : Shd} {size room : Int} {f : Frame} (h : evOk s size room f = true) (h1 : (f.time / size + 1) * size - 1 ≤ s.mark) : addEv s size room f = ({ s with late := capS (s.late + 1) }, 1) := by rw [addEv, if_neg (by rw [h]; decide), if_pos h1]
theorem addEv_over {s : Shd} {size room : Int} {f : Frame} (h : evOk s size room f = true) (h1 : ¬ (f.time / size + 1) * size - 1 ≤ s.mark) (h2 : hitG aggLt (oneOf f size) s.aggs = false) (h3 : room ≤ (s.aggs.length : Int)) : addEv s size room f = ({ s with over := capS (s.over + 1) }, 2) := by rw [addEv, if_neg (by rw [h]; decide), if_neg h1, h2, if_neg (by decide), if_pos h3]
theorem addEv_hit {s : Shd} {size room : Int} {f : Frame} (h : evOk s size room f = true) (h1 : ¬ (f.time / size + 1) * size - 1 ≤ s.mark) (h2 : hitG aggLt (oneOf f size) s.aggs = true) : addEv s size room f = ({ s with aggs := putG (oneOf f size) s.aggs }, 0) := by rw [addEv, if_neg (by rw [h]; decide), if_neg h1, h2, if_pos rfl, putG, h2]; rfl
theorem addEv_new {s : Shd} {size room : Int} {f : Frame} (h : evOk s size room f = true) (h1 : ¬ (f.time / size + 1) * size - 1 ≤ s.mark) (h2 : hitG aggLt (oneOf f size) s.aggs = false) (h3 : ¬ room ≤ (s.aggs.length : Int)) : addEv s size room f = ({ s with aggs := putG (oneOf f size) s.aggs }, 0) := by rw [addEv, if_neg (by rw [h]; decide), if_neg h1, h2, if_neg (by decide), if_neg h3, putG, h2]; rfl
def sameA (x a : Agg) : Bool := decide (x.win = a.win) && decide (x.key = a.key)
theorem sameA_iff {x a : Agg} : sameA x a = true ↔ aggLt x a = false ∧ aggLt a x = false := by
  unfold sameA aggLt
  rw [Bool.and_eq_true, decide_eq_true_iff, decide_eq_true_iff, decide_eq_false_iff_not, decide_eq_false_iff_not]
  omega
theorem sameA_hit {l : List Agg} {a x : Agg} {k : Nat} (hs : Strict l) (hx : l[k]? = some x) (h : sameA x a = true) : k = posG aggLt a l ∧ hitG aggLt a l = true := by
  obtain ⟨h1, h2⟩ := sameA_iff.1 h
  exact only_at aggLt_wo hs hx h2 h1
theorem sameA_none {l : List Agg} {a : Agg} (h : ∀ j x, j < l.length → l[j]? = some x → sameA x a = false) : hitG aggLt a l = false := by
  cases hh : hitG aggLt a l with
  | false => rfl
  | true =>
    obtain ⟨x, hx, h1, h2⟩ := hitG_at hh
    have := h _ x (List.getElem?_eq_some_iff.1 hx).1 hx
    rw [sameA_iff.2 ⟨h2, h1⟩] at this
    cases this
def insA (a : Agg) (l : List Agg) (k : Nat) : List Agg × Bool := (l.take k).foldl (insG aggLt a) ([], false)
theorem insA_succ {a x : Agg} {l : List Agg} {k : Nat} (hx : l[k]? = some x) : insA a l (k + 1) = insG aggLt a (insA a l k) x := by
  have e : l.take (k + 1) = l.take k ++ [x] := by rw [List.take_add_one, hx]; rfl
  rw [insA, e, List.foldl_append]
  rfl
theorem insA_len (a : Agg) (l : List Agg) (k : Nat) : (insA a l k).1.length ≤ k + 1 := by
  have h := insG_len aggLt a (l.take k) ([], false)
  have h2 : (l.take k).length ≤ k := List.length_take_le _ _
  have h3 : (insA a l k).1.length + cond (insA a l k).2 0 1 ≤ 0 + 1 + (l.take k).length := h
  have h4 : (insA a l k).1.length ≤ 0 + 1 + (l.take k).length := by omega
  omega
theorem evOk_iff {s : Shd} {size room : Int} {f : Frame} : evOk s size room f = true ↔ okS s = true ∧ inB size 1 1000000 = true ∧ inB room 1 40 = true ∧ okEv f = true := by
  unfold evOk
  rw [Bool.and_eq_true, Bool.and_eq_true, Bool.and_eq_true]
theorem okEv_iff {f : Frame} : okEv f = true ↔ okFrame f = true ∧ f.kind = 1 := by
  unfold okEv
  rw [Bool.and_eq_true, decide_eq_true_iff]
theorem rm_bad {s : Shd} {k : Int} (h : rmOk s k = false) : raiseMk s k = s := by rw [raiseMk, h]; rfl
theorem rm_ok {s : Shd} {k : Int} (h : rmOk s k = true) : raiseMk s k = { s with mark := k } := by rw [raiseMk, h]; rfl
theorem rm_len (s : Shd) (k : Int) : (raiseMk s k).aggs.length = s.aggs.length := by
  rw [raiseMk]
  split <;> rfl
theorem addEv_len (s : Shd) (size room : Int) (f : Frame) : (addEv s size room f).1.aggs.length ≤ s.aggs.length + 1 := by
  rw [addEv]
  split
  · exact Nat.le_succ _
  split
  · exact Nat.le_succ _
  split
  · show (setG _ _).length ≤ _
    rw [setG, List.length_set]
    exact Nat.le_succ _
  split
  · exact Nat.le_succ _
  · show (insL _ _ _).length ≤ _
    rw [insL_len]
    exact Nat.le_refl _
def isMarkF (f : Frame) : Bool := decide (f.kind = 2) && okFrame f
def addOne (size room : Int) (s : Shd) (f : Frame) : Shd := if isMarkF f then raiseMk s f.time else (addEv s size room f).1
theorem addOne_len (size room : Int) (s : Shd) (f : Frame) : (addOne size room s f).aggs.length ≤ s.aggs.length + 1 := by
  rw [addOne]
  split
  · rw [rm_len]
    exact Nat.le_succ _
  · exact addEv_len s size room f
def addsTo (size room : Int) (s : Shd) (l : List Frame) : Shd := l.foldl (addOne size room) s
theorem addsTo_len (size room : Int) : ∀ (l : List Frame) (s : Shd), (addsTo size room s l).aggs.length ≤ s.aggs.length + l.length
  | [], s => Nat.le_refl _
  | f :: l, s => by
    have h1 := addsTo_len size room l (addOne size room s f)
    have h2 := addOne_len size room s f
    rw [List.length_cons]
    show (addsTo size room (addOne size room s f) l).aggs.length ≤ _
    omega
theorem addsTo_snoc {size room : Int} {s : Shd} {l : List Frame} {k : Nat} {f : Frame} (h : l[k]? = some f) : addsTo size room s (l.take (k + 1)) = addOne size room (addsTo size room s (l.take k)) f := by
  have e : l.take (k + 1) = l.take k ++ [f] := by rw [List.take_add_one, h]; rfl
  rw [addsTo, e, List.foldl_append]
  rfl
def addOk (s : Shd) (size room : Int) (l : List Frame) (a0 : Int) : Bool := okS s && (inB size 1 1000000 && (inB room 1 40 && (decide (l.length ≤ 300) && inB a0 0 (l.length : Int))))
theorem addOk_iff {s : Shd} {size room : Int} {l : List Frame} {a0 : Int} : addOk s size room l a0 = true ↔ okS s = true ∧ inB size 1 1000000 = true ∧ inB room 1 40 = true ∧ l.length ≤ 300 ∧ inB a0 0 (l.length : Int) = true := by
  unfold addOk
  rw [Bool.and_eq_true, Bool.and_eq_true, Bool.and_eq_true, Bool.and_eq_true, decide_eq_true_iff]
def addAllL (s : Shd) (size room : Int) (l : List Frame) (a0 : Int) : Shd := if addOk s size room l a0 then addsTo size room s (l.drop a0.toNat) else s
theorem addAll_bad {s : Shd} {size room : Int} {l : List Frame} {a0 : Int} (h : addOk s size room l a0 = false) : addAllL s size room l a0 = s := by rw [addAllL, h]; rfl
theorem addAll_ok {s : Shd} {size room : Int} {l : List Frame} {a : Nat} (h : addOk s size room l (a : Int) = true) : addAllL s size room l (a : Int) = addsTo size room s (l.drop a) := by rw [addAllL, h, Int.toNat_natCast]; rfl
theorem addAll_len (s : Shd) (size room : Int) (l : List Frame) (a0 : Int) : (addAllL s size room l a0).aggs.length ≤ s.aggs.length + l.length := by
  rw [addAllL]
  split
  · have := addsTo_len size room (l.drop a0.toNat) s
    rw [List.length_drop] at this
    omega
  · omega
section
variable {P : Program} {X : Cx} {ops : Array Oper} {o : Oper} {l : List Oper} {σ : St} {K : List (Pre × Eff) → St → Prop} {lg : List (Nat × AV)}
/-- []Save with one save, whose row is nil. -/
theorem x_buildSDz (hgo : GOn ops σ o lg) (hd : dstOk o.dst σ.n = true) {t t' n by_ : Nat} {z : Value} [hs : TSlice P t t'] [he : TElem P t' n by_ z] {ps : List (Nat × Operand)} {avs : List (Nat × AV)} {nid e : Nat} [_hv : TSave P t' e] {p q r s : Int} (hn : n = 5) (ho : o.op = .buildSlice t 1 ps.toArray) (hx : opndL σ.F ps = some avs)
    (hfl : fillA (fun i => some (i * 5, 5)) ((zrep 1 z.cells.toList).map SV.c) avs = some [.c (.int .i64 p), .c (.slice none 0 0), .c (.int .i64 q), .c (.int .i64 r), .c (.int .i64 s)]) (hid0 : o.dst = some nid) (hid : σ.D nid = false)
    (h : LX P X ops l (σ.app o.dst ⟨.o (.i nid), [(nid, some (.row (kSave e) t' [⟨p, [], q, r, s⟩]))], [(nid, true)]⟩) (fun C => K ((⟨lg ++ lookL ps avs, []⟩, ⟨.o (.i nid), [(nid, some (.row (kSave e) t' [⟨p, [], q, r, s⟩]))], [(nid, true)]⟩) :: C))) : LX P X ops (o :: l) σ K :=
  Lx.run (h := h) (ph := []) (e := ⟨.o (.i nid), [(nid, some (.row (kSave e) t' [⟨p, [], q, r, s⟩]))], [(nid, true)]⟩) hgo.1 hgo.2 (lookL_fits hx) no_mem (one_mem hid) (fun σ1 hn1 h1 _ h3 μ ω a w hs1 K Q hK => by
    subst hn
    have hid1 : σ1.D nid = false := h3 _ List.mem_cons_self
    have hzl : (zrep 1 z.cells.toList).all Value.oneCell' = true := zrep_all he.o 1
    obtain ⟨cells', hfill, hcon, _, _⟩ := fill_con (cells := (zrep 1 z.cells.toList).toArray) (hs1.evL (opndL_of hx h1)) (by simpa using conL_consts μ (zrep 1 z.cells.toList)) (fun u hu => List.all_eq_true.1 hzl u (by simpa using hu)) hfl
    have hcells := conL_eq (cs := [.int .i64 p, .slice none 0 0, .int .i64 q, .int .i64 r, .int .i64 s]) hcon
    have hcells' : cells' = [.int .i64 p, .slice none 0 0, .int .i64 q, .int .i64 r, .int .i64 s].toArray := by rw [← hcells]
    have hi : (P.info? t').map (fun i => (i.zero, i.size)) = some (some z, 5) := by
      obtain ⟨i, hi, hz⟩ := Option.map_eq_some_iff.1 he.h
      simp only [Prod.mk.injEq] at hz
      simp [hi, hz.1, hz.2.1]
    have hrun := run_bS (P := P) (a := a) (w := w) ho hs.h hi (by decide) (zrep_eq he.c he.n) hfill (by decide)
    unfold Oper.wp
    rw [hrun]
    have hb : (w.alloc (.cells cells' t')).heap[w.heap.size]? = some (.cells (([(⟨p, none, 0, 0, q, r, s⟩ : SaveC)].flatMap SaveC.enc).toArray) t' (0, 0)) := by
      rw [hcells']
      exact blk_new _ _
    have hrow := row_of_cells (d := kSaveC) (e := t') (base := 0) (ok := fun k => k = w.heap.size) kSaveC_flat hb (Nat.zero_le _) rfl (by simp)
    have hinn : Inn e (w.alloc (.cells cells' t')) (fun k => k = w.heap.size) (.slice (some ⟨w.heap.size, 0, none⟩) 1 1) (fun _ => 0) [⟨p, none, 0, 0, q, r, s⟩] [⟨p, [], q, r, s⟩] := by
      refine ⟨rfl, fun j y x hy hx => ?_⟩
      match j, hy, hx with
      | 0, hy, hx =>
        simp at hy hx
        subst hy hx
        exact ⟨rfl, rfl, rfl, rfl, Kd.R_nil _ _ _ _ _⟩
      | j + 1, hy, _ => simp at hy
    refine hK _ _ _ _ ((hs1.new (id := nid) (o := .row (kSave e) t' [⟨p, [], q, r, s⟩]) (v := .slice (some ⟨w.heap.size, 0, none⟩) 1 1) (own := fun k => k = w.heap.size) hid1 (Kp.alloc w _) ⟨0, save_close hrow hinn⟩ (fun k hk => ?_)).put (av := .o (.i nid)) (dstOk_spec (hn1 ▸ hd)) ⟨upd_same _ _ _, rfl⟩)
    subst hk; simp)
end
def newS : Shd := ⟨[], -1, 0, 0⟩
def svOf (n : Nat) (t : Shd) : Save := ⟨n, t.aggs, t.mark, t.late, t.over⟩
def addsN (size room : Int) (l : List Frame) (n : Nat) : Shd := addsTo size room newS (l.take n)
theorem addsN_len (size room : Int) (l : List Frame) (n : Nat) : (addsN size room l n).aggs.length ≤ l.length := by
  have := addsTo_len size room (l.take n) newS
  rw [List.length_take] at this
  show (addsTo size room newS (l.take n)).aggs.length ≤ _
  have h0 : newS.aggs.length = 0 := rfl
  omega
theorem addsN_succ {size room : Int} {l : List Frame} {k : Nat} {f : Frame} (h : l[k]? = some f) : addsN size room l (k + 1) = addOne size room (addsN size room l k) f := addsTo_snoc h
def savesTo (size room : Int) (l : List Frame) (E m : Nat) : List Save := (List.range m).map (fun j => svOf (j * E) (addsN size room l (j * E)))
theorem savesTo_succ (size room : Int) (l : List Frame) (E m : Nat) : savesTo size room l E (m + 1) = savesTo size room l E m ++ [svOf (m * E) (addsN size room l (m * E))] := by
  rw [savesTo, List.range_succ, List.map_append]
  rfl
theorem savesTo_len (size room : Int) (l : List Frame) (E m : Nat) : (savesTo size room l E m).length = m := by rw [savesTo, List.length_map, List.length_range]
theorem savesTo_sum (size room : Int) (l : List Frame) (E : Nat) : ∀ m, aggSum (savesTo size room l E m) ≤ m * l.length
  | 0 => Nat.zero_le _
  | m + 1 => by
    have h1 := savesTo_sum size room l E m
    have h2 : aggSum (savesTo size room l E (m + 1)) = aggSum (savesTo size room l E m) + (addsN size room l (m * E)).aggs.length := by
      rw [savesTo_succ]
      simp [aggSum, svOf]
    have h3 := addsN_len size room l (m * E)
    rw [h2, Nat.succ_mul]
    omega
theorem savesTo_at {size room : Int} {l : List Frame} {E m j : Nat} (h : j < m) : (savesTo size room l E m)[j]? = some (svOf (j * E) (addsN size room l (j * E))) := by
  rw [savesTo, List.getElem?_map, List.getElem?_range h]
  rfl
def savesOk (size room : Int) (l : List Frame) (e : Int) : Bool := (inB size 1 1000000 && inB room 1 40) && (decide (l.length ≤ 300) && (inB e 1 300 && decide (l.length / e.toNat + 1 ≤ 20)))
theorem savesOk_iff {size room : Int} {l : List Frame} {e : Int} : savesOk size room l e = true ↔ (inB size 1 1000000 = true ∧ inB room 1 40 = true) ∧ l.length ≤ 300 ∧ inB e 1 300 = true ∧ l.length / e.toNat + 1 ≤ 20 := by
  unfold savesOk
  rw [Bool.and_eq_true, Bool.and_eq_true, Bool.and_eq_true, Bool.and_eq_true, decide_eq_true_iff, decide_eq_true_iff]
def savesL (size room : Int) (l : List Frame) (e : Int) : List Save := if savesOk size room l e then savesTo size room l e.toNat (l.length / e.toNat + 1) else []
theorem saves_bad {size room : Int} {l : List Frame} {e : Int} (h : savesOk size room l e = false) : savesL size room l e = [] := by rw [savesL, h]; rfl
theorem saves_ok {size room : Int} {l : List Frame} {E : Nat} (h : savesOk size room l (E : Int) = true) : savesL size room l (E : Int) = savesTo size room l E (l.length / E + 1) := by rw [savesL, h, Int.toNat_natCast]; rfl
theorem savesL_len (size room : Int) (l : List Frame) (e : Int) : (savesL size room l e).length ≤ 20 ∧ aggSum (savesL size room l e) ≤ 6000 := by
  rw [savesL]
  split
  · rename_i h
    obtain ⟨_, h2, _, h4⟩ := savesOk_iff.1 h
    rw [savesTo_len]
    refine ⟨h4, Nat.le_trans (savesTo_sum _ _ _ _ _) ?_⟩
    calc _ ≤ 20 * 300 := Nat.mul_le_mul h4 h2
      _ ≤ 6000 := by decide
  · exact ⟨Nat.zero_le _, Nat.zero_le _⟩
theorem new_ok : okS newS = true := by decide
theorem new_add {size room : Int} {l : List Frame} (h1 : inB size 1 1000000 = true) (h2 : inB room 1 40 = true) (h3 : l.length ≤ 300) : addOk newS size room l 0 = true := addOk_iff.2 ⟨new_ok, h1, h2, h3, inB_iff.2 ⟨Int.le_refl _, Int.natCast_nonneg _⟩⟩
theorem new_all {size room : Int} {l : List Frame} (h1 : inB size 1 1000000 = true) (h2 : inB room 1 40 = true) (h3 : l.length ≤ 300) : addAllL newS size room l 0 = addsTo size room newS l := addAll_ok (a := 0) (new_add h1 h2 h3)
theorem div_tell {n E k : Nat} (hE : 0 < E) : k * E ≤ n ↔ k ≤ n / E := (Nat.le_div_iff_mul_le hE).symm
theorem lastIx_le {xs : List Save} {a : Int} : ∀ {n k : Nat}, lastIx xs a n = (k : Int) → ∃ x, xs[k]? = some x ∧ x.at_ ≤ a
  | 0, k, h => by rw [lastIx] at h; omega
  | n + 1, k, h => by
    rw [lastIx] at h
    split at h
    · rename_i x hx
      split at h
      · rename_i hle
        obtain rfl : n = k := by omega
        exact ⟨x, hx, hle⟩
      · exact lastIx_le h
    · exact lastIx_le h
theorem resume_spec {xs : List Save} {a : Int} (h : resumeOk xs a = true) : ∃ k : Nat, xs[k]? = some (resumeL xs a) ∧ (resumeL xs a).at_ ≤ a ∧ okSave (resumeL xs a) = true ∧ lastIx xs a xs.length = (k : Int) := by
  have h0 := h
  rw [resumeOk, Bool.and_eq_true, Bool.and_eq_true, decide_eq_true_iff, decide_eq_true_iff] at h
  obtain ⟨⟨h1, h2⟩, h3⟩ := h
  obtain ⟨k, hk⟩ := Int.eq_ofNat_of_zero_le h3
  obtain ⟨x, hx, hle⟩ := lastIx_le hk
  obtain ⟨_, e⟩ := resume_hit h1 h2 hk hx
  rw [e]
  exact ⟨k, hx, hle, List.all_eq_true.1 h2 x (List.mem_of_getElem? hx), hk⟩
def shOf (r : Save) : Shd := ⟨r.aggs, r.mark, r.late, r.over⟩
def crashOk (size room : Int) (l : List Frame) (e a : Int) : Bool := savesOk size room l e && (decide (a ≤ (l.length : Int)) && resumeOk (savesL size room l e) a)
def crashR (size room : Int) (l : List Frame) (e a : Int) : Save := resumeL (savesL size room l e) a
def crashL (size room : Int) (l : List Frame) (e a : Int) : Shd := if crashOk size room l e a then addAllL (shOf (crashR size room l e a)) size room l (crashR size room l e a).at_ else ⟨[], 0, 0, 0⟩
def crashN (size room : Int) (l : List Frame) (e a : Int) : Int := if crashOk size room l e a then a - (crashR size room l e a).at_ else 0
theorem crash_bad {size room : Int} {l : List Frame} {e a : Int} (h : crashOk size room l e a = false) : crashL size room l e a = ⟨[], 0, 0, 0⟩ ∧ crashN size room l e a = 0 := ⟨by rw [crashL, h]; rfl, by rw [crashN, h]; rfl⟩
theorem crash_ok {size room : Int} {l : List Frame} {e a : Int} (h : crashOk size room l e a = true) : crashL size room l e a = addAllL (shOf (crashR size room l e a)) size room l (crashR size room l e a).at_ ∧ crashN size room l e a = a - (crashR size room l e a).at_ := ⟨by rw [crashL, h]; rfl, by rw [crashN, h]; rfl⟩
theorem saves_at {size room : Int} {l : List Frame} {e : Int} (h : savesOk size room l e = true) {k : Nat} {x : Save} (hx : (savesL size room l e)[k]? = some x) : ∃ E : Nat, e = (E : Int) ∧ 0 < E ∧ k * E ≤ l.length ∧ x = svOf (k * E) (addsN size room l (k * E)) := by
  obtain ⟨_, _, h3, _⟩ := savesOk_iff.1 h
  have h3' := inB_iff.1 h3
  obtain ⟨E, rfl⟩ := Int.eq_ofNat_of_zero_le (show 0 ≤ e by omega)
  have hE : 0 < E := by omega
  rw [saves_ok h] at hx
  have hk := (List.getElem?_eq_some_iff.1 hx).1
  rw [savesTo_len] at hk
  rw [savesTo_at hk] at hx
  cases hx
  exact ⟨E, rfl, hE, (div_tell hE).2 (by omega), rfl⟩
theorem crash_spec {size room : Int} {l : List Frame} {e a : Int} (h : crashOk size room l e a = true) : addOk (shOf (crashR size room l e a)) size room l (crashR size room l e a).at_ = true ∧ (crashR size room l e a).at_ ≤ a ∧ 0 ≤ (crashR size room l e a).at_ ∧ a ≤ (l.length : Int) := by
  rw [crashOk, Bool.and_eq_true, Bool.and_eq_true, decide_eq_true_iff] at h
  obtain ⟨h1, h2, h3⟩ := h
  obtain ⟨k, hk, hle, hok, _⟩ := resume_spec h3
  obtain ⟨E, rfl, hE, hkE, hx⟩ := saves_at h1 hk
  have hat : (crashR size room l (E : Int) a).at_ = ((k * E : Nat) : Int) := by
    show (resumeL _ _).at_ = _
    rw [hx]
    rfl
  obtain ⟨⟨g1, g2⟩, g3, _⟩ := savesOk_iff.1 h1
  have hok2 : okS (shOf (crashR size room l (E : Int) a)) = true := by
    have hok3 : okSave (crashR size room l (E : Int) a) = true := hok
    unfold okSave at hok3
    rw [Bool.and_eq_true] at hok3
    exact hok3.2
  refine ⟨addOk_iff.2 ⟨hok2, g1, g2, g3, ?_⟩, hle, ?_, h2⟩
  · rw [hat]
    exact inB_iff.2 ⟨Int.natCast_nonneg _, by omega⟩
  · rw [hat]
    exact Int.natCast_nonneg _
theorem crash_len (size room : Int) (l : List Frame) (e a : Int) : (crashL size room l e a).aggs.length ≤ 6000 + l.length := by
  rw [crashL]
  split
  · have h1 := addAll_len (shOf (crashR size room l e a)) size room l (crashR size room l e a).at_
    have h2 : (shOf (crashR size room l e a)).aggs.length ≤ aggSum (savesL size room l e) := resume_len _ _
    have h3 := (savesL_len size room l e).2
    omega
  · exact Nat.zero_le _
end Go.Proofs.Ytplcjkgbjapbmaa.C
