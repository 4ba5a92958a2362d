import Derived.Test.YtjdncnajedglgaaDoorUp
import Derived.Test.YtjdncnajedglgaaDoorPPl
import Derived.Test.YtjdncnajedglgaaDoorPSb
import Derived.Test.YtjdncnajedglgaaDoorPSd
namespace Go.Proofs.YtjdncnajedglgaaDoor.C
open Go.RowKit Go.Proofs.YtjdncnajedglgaaDoorW Go.Proofs.YtjdncnajedglgaaDoorW.PrintWords Go.Proofs.YtjdncnajedglgaaDoor.U
set_option maxHeartbeats 1000000
set_option maxRecDepth 100000
set_option linter.unusedVariables false
set_option linter.unusedSimpArgs false
def sessLt (a b : Session) : Bool := decide (a.key < b.key ∨ a.key = b.key ∧ a.frm < b.frm)
def sessC (x y : Session) : Int := orJ (cmps [x.key, x.frm] [y.key, y.frm])
theorem sessC_lt (x y : Session) : decide (sessC x y < 0) = sessLt x y := by
  unfold sessC
  rw [orJ_cmps, sessLt, Bool.eq_iff_iff, decide_eq_true_iff]
  simp only [lexLt]
  by_cases h1 : x.key = y.key
  · rw [if_pos h1]
    by_cases h2 : x.frm = y.frm
    · rw [if_pos h2]; simp; omega
    · rw [if_neg h2, decide_eq_true_iff]; omega
  · rw [if_neg h1, decide_eq_true_iff]; omega
theorem sessC_ge (x y : Session) : decide (0 ≤ sessC x y) = !sessLt x y := by
  rw [← sessC_lt]
  by_cases h : sessC x y < 0
  · rw [decide_eq_true h, decide_eq_false (by omega)]; rfl
  · rw [decide_eq_false h, decide_eq_true (by omega)]; rfl
theorem sessC_eq (x y : Session) : sessC x y = 0 ↔ x.key = y.key ∧ x.frm = y.frm := by
  unfold sessC cmps cmps cmps orJ orJ orJ
  by_cases h1 : x.key = y.key
  · rw [if_pos (cmpJ_zero.2 h1)]
    by_cases h2 : x.frm = y.frm
    · rw [if_pos (cmpJ_zero.2 h2)]; simp [h1, h2]
    · rw [if_neg (fun e => h2 (cmpJ_zero.1 e))]
      exact ⟨fun e => absurd (cmpJ_zero.1 e) h2, fun e => absurd e.2 h2⟩
  · rw [if_neg (fun e => h1 (cmpJ_zero.1 e))]
    exact ⟨fun e => absurd (cmpJ_zero.1 e) h1, fun e => absurd e.1 h1⟩
theorem sessLt_wo : Wo sessLt where
  asym x y h := by
    unfold sessLt at h ⊢
    simp only [decide_eq_true_iff, decide_eq_false_iff_not] at h ⊢
    omega
  ntrans x y z h1 h2 := by
    unfold sessLt at h1 h2 ⊢
    simp only [decide_eq_false_iff_not] at h1 h2 ⊢
    omega
def StrictG {α : Type} (lt : α → α → Bool) (l : List α) : Prop := ∀ (i j : Nat) y z, i < j → l[i]? = some y → l[j]? = some z → lt y z = true
theorem strictG_of {α : Type} {lt : α → α → Bool} (hw : Wo lt) {l : List α} (h1 : ∀ i x y, l[i]? = some x → l[i + 1]? = some y → lt x y = true) : StrictG lt l := by
  intro i j y z hij hy hz
  obtain ⟨d, rfl⟩ : ∃ d, j = i + 1 + d := ⟨j - (i + 1), by omega⟩
  clear hij
  induction d generalizing z with
  | zero => exact h1 i y z hy hz
  | succ d ih =>
    obtain ⟨x, hx⟩ := elt (l := l) (k := i + 1 + d) (by have := (List.getElem?_eq_some_iff.1 hz).1; omega)
    exact hw.trans (ih x hx) (h1 (i + 1 + d) x z hx hz)
theorem strictG_pw {α : Type} {lt : α → α → Bool} {l : List α} : StrictG lt l ↔ l.Pairwise (fun a b => lt a b = true) := by
  rw [List.pairwise_iff_getElem]
  constructor
  · intro h i j hi hj hij
    exact h i j _ _ hij (List.getElem?_eq_getElem hi) (List.getElem?_eq_getElem hj)
  · intro h i j y z hij hy hz
    obtain ⟨hi, e1⟩ := List.getElem?_eq_some_iff.1 hy
    obtain ⟨hj, e2⟩ := List.getElem?_eq_some_iff.1 hz
    rw [← e1, ← e2]
    exact h i j hi hj hij
def capT (n : Int) : Int := min (max n (-1000000000)) 1000000000
def nearS (f : Frame) (gap : Int) (s : Session) : Bool := decide (s.key = f.key) && (decide (s.frm - gap ≤ f.time) && decide (f.time ≤ s.till + gap))
def joinS (a b : Session) : Session := ⟨a.key, min a.frm b.frm, max a.till b.till, min (a.count + b.count) 1000000000, capT (a.sum + b.sum)⟩
def oneS (f : Frame) : Session := ⟨f.key, f.time, f.time, 1, f.value⟩
def ownF (f : Frame) (gap : Int) (o s : Session) : Session := if nearS f gap s then joinS s o else o
def ownS (f : Frame) (gap : Int) (l : List Session) : Session := l.foldl (ownF f gap) (oneS f)
def outS (f : Frame) (gap : Int) (l : List Session) : List Session := l.filter (fun s => !nearS f gap s)
def addSL (f : Frame) (gap : Int) (l : List Session) : List Session := insL sessLt (ownS f gap l) (outS f gap l)
theorem take_snoc' {α : Type} {l : List α} {k : Nat} {x : α} (h : l[k]? = some x) : l.take (k + 1) = l.take k ++ [x] := by rw [List.take_add_one, h]; rfl
theorem ownS_succ {f : Frame} {gap : Int} {l : List Session} {k : Nat} {x : Session} (h : l[k]? = some x) : ownS f gap (l.take (k + 1)) = ownF f gap (ownS f gap (l.take k)) x := by
  rw [ownS, take_snoc' h, List.foldl_append]
  rfl
theorem outS_succ {f : Frame} {gap : Int} {l : List Session} {k : Nat} {x : Session} (h : l[k]? = some x) : outS f gap (l.take (k + 1)) = outS f gap (l.take k) ++ (if nearS f gap x then [] else [x]) := by
  rw [outS, take_snoc' h, List.filter_append]
  cases hn : nearS f gap x
  · rw [show [x].filter (fun s => !nearS f gap s) = [x] by simp [hn]]
    rfl
  · rw [show [x].filter (fun s => !nearS f gap s) = [] by simp [hn]]
    rfl
theorem outS_len (f : Frame) (gap : Int) (l : List Session) : (outS f gap l).length ≤ l.length := List.length_filter_le _ _
theorem addSL_len (f : Frame) (gap : Int) (l : List Session) : (addSL f gap l).length ≤ l.length + 1 := by
  rw [addSL, insL_len]
  have := outS_len f gap l
  omega
def okSess (s : Session) : Bool := inB s.key 0 65535 && (inB s.frm 0 1000000 && (inB s.till 0 1000000 && (decide (s.frm ≤ s.till) && (inB s.count 1 1000000000 && inB s.sum (-1000000000) 1000000000))))
theorem okSess_iff {s : Session} : okSess s = true ↔ (0 ≤ s.key ∧ s.key ≤ 65535) ∧ (0 ≤ s.frm ∧ s.frm ≤ 1000000) ∧ (0 ≤ s.till ∧ s.till ≤ 1000000) ∧ s.frm ≤ s.till ∧ (1 ≤ s.count ∧ s.count ≤ 1000000000) ∧ (-1000000000 ≤ s.sum ∧ s.sum ≤ 1000000000) := by
  unfold okSess
  simp only [Bool.and_eq_true, inB_iff, decide_eq_true_iff]
def apartS (gap : Int) (a b : Session) : Bool := decide (a.key < b.key ∨ a.key = b.key ∧ a.till + gap < b.frm)
def okSessL (gap : Int) (l : List Session) : Bool := decide (l.length ≤ 200) && (l.all okSess && sortedB (apartS gap) l)
def SessBd (s : Session) : Prop := (0 ≤ s.count ∧ s.count ≤ 1000000000) ∧ (-1000000000 ≤ s.sum ∧ s.sum ≤ 1000000000)
theorem okSess_bd {s : Session} (h : okSess s = true) : SessBd s := by
  obtain ⟨_, _, _, _, h5, h6⟩ := okSess_iff.1 h
  exact ⟨by omega, h6⟩
theorem joinS_bd {a b : Session} (ha : SessBd a) (hb : SessBd b) : SessBd (joinS a b) := by
  unfold SessBd at *
  dsimp only [joinS]
  unfold capT
  omega
theorem ownS_bd {f : Frame} {gap : Int} {l : List Session} (h1 : SessBd (oneS f)) (hl : ∀ s ∈ l, SessBd s) : SessBd (ownS f gap l) := by
  rw [ownS]
  generalize oneS f = o at h1
  induction l generalizing o with
  | nil => exact h1
  | cons x l ih =>
    refine ih (fun s hs => hl s (List.mem_cons_of_mem _ hs)) _ ?_
    unfold ownF
    split
    · exact joinS_bd (hl x List.mem_cons_self) h1
    · exact h1
theorem ownS_key (f : Frame) (gap : Int) (l : List Session) : (ownS f gap l).key = f.key := by
  have : ∀ (l : List Session) (o : Session), o.key = f.key → (l.foldl (ownF f gap) o).key = f.key := by
    intro l
    induction l with
    | nil => intro o h; exact h
    | cons x l ih =>
      intro o h
      refine ih _ ?_
      unfold ownF
      split
      · rename_i hn
        unfold nearS at hn
        rw [Bool.and_eq_true, decide_eq_true_iff] at hn
        exact hn.1
      · exact h
  exact this l _ rfl
theorem ownS_frm (f : Frame) (gap : Int) (l : List Session) : (ownS f gap l).frm = f.time ∨ ∃ s ∈ l, nearS f gap s = true ∧ s.frm = (ownS f gap l).frm := by
  have : ∀ (l : List Session) (o : Session), (l.foldl (ownF f gap) o).frm = o.frm ∨ ∃ s ∈ l, nearS f gap s = true ∧ s.frm = (l.foldl (ownF f gap) o).frm := by
    intro l
    induction l with
    | nil => intro o; exact .inl rfl
    | cons x l ih =>
      intro o
      rcases ih (ownF f gap o x) with h | ⟨s, hs, hn, h⟩
      · rw [List.foldl_cons, h]
        cases hn : nearS f gap x
        · left
          rw [ownF, hn]
          rfl
        · rw [ownF, hn, if_pos rfl]
          rcases Int.le_total o.frm x.frm with h2 | h2
          · left
            show min x.frm o.frm = _
            omega
          · right
            exact ⟨x, List.mem_cons_self, hn, by show x.frm = min x.frm o.frm; omega⟩
      · right
        exact ⟨s, List.mem_cons_of_mem _ hs, hn, h⟩
  exact this l _
theorem okSessL_iff {gap : Int} {l : List Session} : okSessL gap l = true ↔ l.length ≤ 200 ∧ (∀ s ∈ l, okSess s = true) ∧ ∀ i x y, l[i]? = some x → l[i + 1]? = some y → apartS gap x y = true := by
  unfold okSessL
  rw [Bool.and_eq_true, Bool.and_eq_true, decide_eq_true_iff, List.all_eq_true, sortedB_iff]
theorem sess_strict {gap : Int} {l : List Session} (hg : 0 ≤ gap) (h : okSessL gap l = true) : StrictG sessLt l := by
  obtain ⟨_, h2, h3⟩ := okSessL_iff.1 h
  refine strictG_of sessLt_wo (fun i x y hx hy => ?_)
  have h4 := h3 i x y hx hy
  obtain ⟨_, _, _, h5, _⟩ := okSess_iff.1 (h2 x (List.mem_of_getElem? hx))
  unfold apartS at h4
  unfold sessLt
  rw [decide_eq_true_iff] at h4 ⊢
  omega
theorem outS_strict {f : Frame} {gap : Int} {l : List Session} (h : StrictG sessLt l) : StrictG sessLt (outS f gap l) := strictG_pw.2 ((strictG_pw.1 h).filter _)
theorem sess_one {l : List Session} (h : StrictG sessLt l) {x y : Session} (hx : x ∈ l) (hy : y ∈ l) (e1 : x.key = y.key) (e2 : x.frm = y.frm) : x = y := by
  obtain ⟨i, hi⟩ := List.mem_iff_getElem?.1 hx
  obtain ⟨j, hj⟩ := List.mem_iff_getElem?.1 hy
  rcases Nat.lt_trichotomy i j with hlt | rfl | hlt
  · have := h i j x y hlt hi hj
    unfold sessLt at this
    rw [decide_eq_true_iff] at this
    omega
  · rw [hi] at hj
    cases hj
    rfl
  · have := h j i y x hlt hj hi
    unfold sessLt at this
    rw [decide_eq_true_iff] at this
    omega
theorem sess_nohit {f : Frame} {gap : Int} {l : List Session} (hg : 0 ≤ gap) (h : okSessL gap l = true) : hitG sessLt (ownS f gap l) (outS f gap l) = false := by
  cases hh : hitG sessLt (ownS f gap l) (outS f gap l) with
  | false => rfl
  | true =>
    exfalso
    obtain ⟨x, hx, h1, h2⟩ := hitG_at hh
    have hxo := List.mem_of_getElem? hx
    rw [outS, List.mem_filter] at hxo
    obtain ⟨hxl, hxn⟩ := hxo
    have hk := ownS_key f gap l
    obtain ⟨_, hok, _⟩ := okSessL_iff.1 h
    obtain ⟨_, _, _, hft, _⟩ := okSess_iff.1 (hok x hxl)
    have hst := sess_strict hg h
    unfold sessLt at h1 h2
    rw [decide_eq_false_iff_not] at h1 h2
    have e1 : x.key = f.key := by omega
    have e2 : x.frm = (ownS f gap l).frm := by omega
    have hnx : nearS f gap x = true := by
      rcases ownS_frm f gap l with h3 | ⟨s, hs, hn, h3⟩
      · unfold nearS
        rw [decide_eq_true e1, decide_eq_true (p := x.frm - gap ≤ f.time) (by omega), decide_eq_true (p := f.time ≤ x.till + gap) (by omega)]
        rfl
      · have hn' := hn
        unfold nearS at hn'
        rw [Bool.and_eq_true, decide_eq_true_iff] at hn'
        have := sess_one hst hxl hs (by omega) (by omega)
        rw [this]
        exact hn
    rw [hnx] at hxn
    cases hxn
def atsOk (l : List Session) (f : Frame) (gap : Int) : Bool := inB gap 0 1000000 && (okEv f && okSessL gap l)
def atsGo (l : List Session) (f : Frame) (gap : Int) : Bool := atsOk l f gap && decide ((addSL f gap l).length ≤ 200)
def atsL (l : List Session) (f : Frame) (gap : Int) : List Session := if atsGo l f gap then addSL f gap l else l
theorem ats_bad {l : List Session} {f : Frame} {gap : Int} (h : atsOk l f gap = false) : atsGo l f gap = false ∧ atsL l f gap = l := by
  have : atsGo l f gap = false := by rw [atsGo, h]; rfl
  exact ⟨this, by rw [atsL, this]; rfl⟩
theorem ats_many {l : List Session} {f : Frame} {gap : Int} (h : ¬ (addSL f gap l).length ≤ 200) : atsGo l f gap = false ∧ atsL l f gap = l := by
  have : atsGo l f gap = false := by rw [atsGo, decide_eq_false h]; simp
  exact ⟨this, by rw [atsL, this]; rfl⟩
theorem ats_ok {l : List Session} {f : Frame} {gap : Int} (h : atsOk l f gap = true) (h2 : (addSL f gap l).length ≤ 200) : atsGo l f gap = true ∧ atsL l f gap = addSL f gap l := by
  have : atsGo l f gap = true := by rw [atsGo, h, decide_eq_true h2]; rfl
  exact ⟨this, by rw [atsL, this]; rfl⟩
theorem ats_len (l : List Session) (f : Frame) (gap : Int) : (atsL l f gap).length ≤ l.length + 1 := by
  unfold atsL
  split
  · exact addSL_len f gap l
  · omega
end Go.Proofs.YtjdncnajedglgaaDoor.C
