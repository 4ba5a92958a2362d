import Derived.Test.YtplcjkgbjapbmaaUp
import Derived.Test.YtplcjkgbjapbmaaUSlides
namespace Go.Proofs.Ytplcjkgbjapbmaa.C
open Go.RowKit Go.Proofs.YtplcjkgbjapbmaaW Go.Proofs.YtplcjkgbjapbmaaW.PrintWords Go.Proofs.Ytplcjkgbjapbmaa.U
set_option maxHeartbeats 1000000
set_option maxRecDepth 100000
set_option linter.unusedVariables false
set_option linter.unusedSimpArgs false
/-! The windows that slide: what each of them holds, and how many there are. -/
def cover (size hop : Int) : Int := (size + hop - 1) / hop
theorem slN_cover {t size hop : Int} (h : SlB t size hop) : ((slN t size hop : Nat) : Int) ≤ cover size hop := by
  have ⟨t0, t1, s0, s1, h0, h1⟩ := h
  have hc : 0 ≤ cover size hop := Int.ediv_nonneg (by omega) (by omega)
  have hq := slq_bd h
  have hf := slF_bd h
  suffices hs : t / hop - slF t size hop + 1 ≤ cover size hop by unfold slN; omega
  unfold cover
  rw [Int.le_ediv_iff_mul_le (by omega)]
  have e1 : t / hop * hop ≤ t := Int.ediv_mul_le _ (by omega)
  by_cases hl : t < size
  · rw [slF_lt h hl, Int.sub_zero, Int.add_mul]
    omega
  · rw [slF_ge h hl]
    have e2 : t - size < ((t - size) / hop + 1) * hop := Int.lt_ediv_add_one_mul_self _ (by omega)
    rw [show t / hop - ((t - size) / hop + 1) + 1 = t / hop - (t - size) / hop by omega, Int.sub_mul]
    rw [Int.add_mul] at e2
    omega
theorem slN_le_size {t size hop : Int} (h : SlB t size hop) : ((slN t size hop : Nat) : Int) ≤ size := by
  refine Int.le_trans (slN_cover h) ?_
  have ⟨t0, t1, s0, s1, h0, h1⟩ := h
  unfold cover
  have : (size + hop - 1) / hop < size + 1 := by
    rw [Int.ediv_lt_iff_lt_mul (by omega), Int.add_mul]
    have h2 : size * 1 ≤ size * hop := Int.mul_le_mul_of_nonneg_left (by omega) (by omega)
    omega
  omega
theorem many_no {t size hop : Int} (h : SlB t size hop) (hs : size ≤ 300) : slMany t size hop = false := by
  have h1 := slN_le_size h
  unfold slN at h1
  unfold slMany
  rw [decide_eq_false_iff_not]
  omega
theorem slL_mem {t size hop x : Int} (hx : x ∈ slL t size hop) : slF t size hop ≤ x ∧ x ≤ t / hop := by
  obtain ⟨i, hi, rfl⟩ := List.mem_map.1 hx
  have h3 := List.mem_range.1 hi
  unfold slN at h3
  omega
theorem mem_slL {t size hop x : Int} (h1 : slF t size hop ≤ x) (h2 : x ≤ t / hop) : x ∈ slL t size hop := by
  refine List.mem_map.2 ⟨(x - slF t size hop).toNat, List.mem_range.2 ?_, ?_⟩
  · unfold slN
    omega
  · omega
theorem slL_holds {t size hop x : Int} (h : SlB t size hop) (hx : x ∈ slL t size hop) : (0 ≤ x ∧ x ≤ 1000000) ∧ x * hop ≤ t ∧ t ≤ x * hop + size - 1 := by
  have ⟨t0, t1, s0, s1, h0, h1⟩ := h
  have ⟨g1, g2⟩ := slL_mem hx
  have hq := slq_bd h
  have hf := slF_bd h
  refine ⟨by omega, ?_, ?_⟩
  · exact (Int.le_ediv_iff_mul_le (by omega)).1 g2
  · by_cases hl : t < size
    · have : 0 ≤ x * hop := Int.mul_nonneg (by omega) (by omega)
      omega
    · rw [slF_ge h hl] at g1
      have e2 : t - size < ((t - size) / hop + 1) * hop := Int.lt_ediv_add_one_mul_self _ (by omega)
      have e3 : ((t - size) / hop + 1) * hop ≤ x * hop := Int.mul_le_mul_of_nonneg_right g1 (by omega)
      omega
theorem slL_last {t size hop : Int} (h : SlB t size hop) : decide (t ≤ t / hop * hop + size - 1) = decide (t / hop ∈ slL t size hop) := by
  have ⟨t0, t1, s0, s1, h0, h1⟩ := h
  rw [Bool.eq_iff_iff, decide_eq_true_iff, decide_eq_true_iff]
  constructor
  · intro g
    refine mem_slL ?_ (Int.le_refl _)
    by_cases hl : t < size
    · rw [slF_lt h hl]
      exact (slq_bd h).1
    · rw [slF_ge h hl]
      have : (t - size) / hop < t / hop := (Int.ediv_lt_iff_lt_mul (by omega)).2 (by omega)
      omega
  · intro g
    exact (slL_holds h g).2.2
theorem last_bd {t size hop : Int} (h : SlB t size hop) : (0 ≤ t / hop * hop ∧ t / hop * hop ≤ 1000000) := by
  have ⟨t0, t1, s0, s1, h0, h1⟩ := h
  have e1 : t / hop * hop ≤ t := Int.ediv_mul_le _ (by omega)
  exact ⟨Int.mul_nonneg (slq_bd h).1 (by omega), by omega⟩
theorem mul_bd2 {w size : Int} (hw : 0 ≤ w ∧ w ≤ 1000000) (hs : 1 ≤ size ∧ size ≤ 1000000) : 0 ≤ w * size ∧ w * size ≤ 1000000000000 := by
  refine ⟨Int.mul_nonneg (by omega) (by omega), ?_⟩
  have h1 : w * size ≤ 1000000 * 1000000 := Int.mul_le_mul hw.2 hs.2 (by omega) (by decide)
  omega
/-- counts -/
def cntG : List Agg → Int
  | [] => 0
  | a :: l => a.count + cntG l
theorem cntG_perm {l m : List Agg} (h : l.Perm m) : cntG l = cntG m := by
  induction h with
  | nil => rfl
  | cons x _ ih => rw [cntG, cntG, ih]
  | swap x y l => simp only [cntG]; omega
  | trans _ _ h1 h2 => exact h1.trans h2
theorem cntG_app : ∀ (l m : List Agg), cntG (l ++ m) = cntG l + cntG m
  | [], m => by simp [cntG]
  | a :: l, m => by rw [List.cons_append, cntG, cntG, cntG_app l m]; omega
theorem cntG_set : ∀ {D : List Agg} {p : Nat} {y : Agg} (m : Agg), D[p]? = some y → cntG (D.set p m) = cntG D - y.count + m.count
  | [], _, _, _, h => by simp at h
  | a :: D, 0, y, m, h => by
    have : a = y := by simpa using h
    subst this
    rw [List.set_cons_zero, cntG, cntG]
    omega
  | a :: D, p + 1, y, m, h => by
    rw [List.set_cons_succ, cntG, cntG, cntG_set (D := D) (p := p) m (by simpa using h)]
    omega
theorem cntG_nonneg : ∀ {D : List Agg}, (∀ y ∈ D, AggBd y) → 0 ≤ cntG D
  | [], _ => Int.le_refl _
  | a :: D, h => by
    have h1 := (h a List.mem_cons_self).1
    have h2 := cntG_nonneg (fun y hy => h y (List.mem_cons_of_mem _ hy))
    rw [cntG]
    omega
theorem cntG_mem : ∀ {D : List Agg} {p : Nat} {y : Agg}, (∀ y ∈ D, AggBd y) → D[p]? = some y → y.count ≤ cntG D
  | [], _, _, _, h => by simp at h
  | a :: D, 0, y, hb, h => by
    have : a = y := by simpa using h
    subst this
    have h2 := cntG_nonneg (fun y hy => hb y (List.mem_cons_of_mem _ hy))
    rw [cntG]
    omega
  | a :: D, p + 1, y, hb, h => by
    have h1 := (hb a List.mem_cons_self).1
    have h2 := cntG_mem (D := D) (p := p) (fun y hy => hb y (List.mem_cons_of_mem _ hy)) (by simpa using h)
    rw [cntG]
    omega
theorem cntG_ded {x : Agg} {D : List Agg} (hd : Dist D) (hb : ∀ y ∈ D, AggBd y) (hx : AggBd x) (hs : cntG D + x.count ≤ 1000000000) : cntG (dedA x D) = cntG D + x.count := by
  cases hpl : plA D x.win x.key with
  | none => rw [← ded_new hpl, cntG_app, cntG, cntG]; omega
  | some c =>
    obtain ⟨p, y, rfl, hy, hsm⟩ := plA_some hpl
    rw [← ded_set hd hy hsm, cntG_set _ hy]
    have h1 := cntG_mem hb hy
    have h2 := (hb y (List.mem_of_getElem? hy)).1
    have h3 := hx.1
    have : (mergeA y x).count = y.count + x.count := by
      show capS (y.count + x.count) = _
      unfold capS
      omega
    omega
theorem cntG_dedL {l : List Agg} (hb : ∀ y ∈ l, AggBd y ∧ y.count = 1) (hl : l.length ≤ 1000000) : ∀ k, k ≤ l.length → cntG (dedL (l.take k)) = (k : Int)
  | 0, _ => rfl
  | k + 1, hk => by
    obtain ⟨x, hx⟩ : ∃ x, l[k]? = some x := ⟨l[k], List.getElem?_eq_getElem (by omega)⟩
    have h1 := cntG_dedL hb hl k (by omega)
    have h2 := hb x (List.mem_of_getElem? hx)
    rw [take_snocF hx, dedL_snoc, cntG_ded (dist_ded _) (ded_bd (fun a ha => (hb a (List.mem_of_mem_take ha)).1)) h2.1 (by omega), h1, h2.2]
    omega
theorem cntG_foldK {l : List Agg} (hb : ∀ y ∈ l, AggBd y ∧ y.count = 1) (hl : l.length ≤ 1000000) : cntG (foldK l) = (l.length : Int) := by
  rw [← sort_ded, cntG_perm (sortL_perm aggLt_wo _)]
  have := cntG_dedL hb hl l.length (Nat.le_refl _)
  rwa [List.take_length] at this
/-- all of them are right -/
theorem okAgg_iff {a : Agg} : okAgg a = true ↔ (0 ≤ a.win ∧ a.win ≤ 1000000) ∧ (0 ≤ a.key ∧ a.key ≤ 65535) ∧ (1 ≤ a.count ∧ a.count ≤ 1000000000) ∧ (-1000000000 ≤ a.sum ∧ a.sum ≤ 1000000000) ∧ (-1000000 ≤ a.min ∧ a.min ≤ 1000000) ∧ (-1000000 ≤ a.max ∧ a.max ≤ 1000000) ∧ a.min ≤ a.max := by
  unfold okAgg
  simp only [Bool.and_eq_true, inB_iff, decide_eq_true_iff]
theorem okAgg_mg {a b : Agg} (ha : okAgg a = true) (hb : okAgg b = true) : okAgg (mergeA a b) = true := by
  rw [okAgg_iff] at ha hb ⊢
  obtain ⟨a1, a2, a3, a4, a5, a6, a7⟩ := ha
  obtain ⟨b1, b2, b3, b4, b5, b6, b7⟩ := hb
  refine ⟨a1, a2, ?_, ?_, ?_, ?_, ?_⟩
  · show 1 ≤ capS (a.count + b.count) ∧ capS (a.count + b.count) ≤ 1000000000
    unfold capS
    omega
  · show -1000000000 ≤ capS (a.sum + b.sum) ∧ capS (a.sum + b.sum) ≤ 1000000000
    unfold capS
    omega
  · show -1000000 ≤ min a.min b.min ∧ min a.min b.min ≤ 1000000
    omega
  · show -1000000 ≤ max a.max b.max ∧ max a.max b.max ≤ 1000000
    omega
  · show min a.min b.min ≤ max a.max b.max
    omega
theorem okAgg_1 {f : Frame} {w : Int} (h : okEv f = true) (hw : 0 ≤ w ∧ w ≤ 1000000) : okAgg (agg1 f w) = true := by
  obtain ⟨_, h2, _, h4⟩ := okEv_bd h
  rw [okAgg_iff]
  refine ⟨hw, h2, ?_, ?_, h4, h4, Int.le_refl _⟩
  · show (1 : Int) ≤ 1 ∧ (1 : Int) ≤ 1000000000
    decide
  · show -1000000000 ≤ f.value ∧ f.value ≤ 1000000000
    omega
theorem dedA_ok {x : Agg} {D : List Agg} (hx : okAgg x = true) (h : ∀ y ∈ D, okAgg y = true) : ∀ y ∈ dedA x D, okAgg y = true := fun y hy => by
  unfold dedA at hy
  split at hy
  · obtain ⟨z, hz, rfl⟩ := List.mem_map.1 hy
    unfold mgA
    split
    · exact okAgg_mg (h z hz) hx
    · exact h z hz
  · rcases List.mem_append.1 hy with h1 | h1
    · exact h y h1
    · rw [List.mem_singleton.1 h1]; exact hx
theorem ded_ok' : ∀ (l D : List Agg), (∀ x ∈ l, okAgg x = true) → (∀ y ∈ D, okAgg y = true) → ∀ y ∈ l.foldl (fun a x => dedA x a) D, okAgg y = true
  | [], D, _, h => h
  | x :: l, D, hl, h => ded_ok' l (dedA x D) (fun y hy => hl y (List.mem_cons_of_mem _ hy)) (dedA_ok (hl x List.mem_cons_self) h)
theorem foldK_ok {l : List Agg} (h : ∀ x ∈ l, okAgg x = true) : ∀ y ∈ foldK l, okAgg y = true := fun y hy => by
  rw [← sort_ded] at hy
  exact ded_ok' l [] h (fun y hy => by cases hy) y ((sortL_perm aggLt_wo _).mem_iff.1 hy)
theorem any_none {l : List Frame} {size hop : Int} (hf : fineB size hop = true) (hs : size ≤ 300) : l.any (fsMany size hop) = false := by
  rw [← Bool.not_eq_true, List.any_eq_true]
  rintro ⟨f, hm, h⟩
  unfold fsMany at h
  rw [Bool.and_eq_true] at h
  rw [many_no (okEv_SlB h.1 hf) hs] at h
  cases h.2
theorem fsAll_ok {size hop : Int} {l : List Frame} (hf : fineB size hop = true) : ∀ a ∈ fsAll size hop l, okAgg a = true ∧ AggBd a ∧ a.count = 1 := fun a ha => by
  obtain ⟨f, hm, hx⟩ := List.mem_flatMap.1 ha
  unfold evAs at hx
  split at hx
  · rename_i ho
    obtain ⟨w, hw, rfl⟩ := List.mem_map.1 hx
    exact ⟨okAgg_1 ho (slL_holds (okEv_SlB ho hf) hw).1, agg1_bd ho w, rfl⟩
  · cases hx
theorem slides_law {size hop : Int} {l : List Frame} (hf : fineB size hop = true) (hs : size ≤ 300) (hl : l.length ≤ 300) : foldSl l size hop = foldK (fsAll size hop l) ∧ (∀ a ∈ foldSl l size hop, okAgg a = true) ∧ cntG (foldSl l size hop) = ((fsAll size hop l).length : Int) ∧ (fsAll size hop l).length ≤ 90000 := by
  have h1 := any_none (l := l) hf hs
  have h2 := fsAll_len h1
  rw [fs_ok hf hl h1]
  exact ⟨rfl, foldK_ok (fun a ha => (fsAll_ok hf a ha).1), cntG_foldK (fun a ha => (fsAll_ok hf a ha).2) (by omega), by omega⟩
theorem fsAll_more {size hop : Int} {l : List Frame} {k : Nat} {f : Frame} (h : l[k]? = some f) (ho : okEv f = true) : ((fsAll size hop (l.take (k + 1))).length : Int) = ((fsAll size hop (l.take k)).length : Int) + ((slL f.time size hop).length : Int) := by
  rw [fsAll_snoc h, evAs, if_pos ho, List.length_append, slA_len, slL_len]
  omega
/-- the sum of counts -/
theorem cntG_to {l : List Agg} {k : Nat} {x : Agg} (h : l[k]? = some x) : cntG (l.take (k + 1)) = cntG (l.take k) + x.count := by
  rw [take_snocF h, cntG_app, cntG, cntG]
  omega
theorem cntG_part {l : List Agg} (hb : ∀ y ∈ l, AggBd y) (k : Nat) : 0 ≤ cntG (l.take k) ∧ cntG (l.take k) ≤ cntG l := by
  have h1 := cntG_app (l.take k) (l.drop k)
  rw [List.take_append_drop] at h1
  have h2 := cntG_nonneg (D := l.drop k) (fun y hy => hb y (List.mem_of_mem_drop hy))
  have h3 := cntG_nonneg (D := l.take k) (fun y hy => hb y (List.mem_of_mem_take hy))
  omega
end Go.Proofs.Ytplcjkgbjapbmaa.C
