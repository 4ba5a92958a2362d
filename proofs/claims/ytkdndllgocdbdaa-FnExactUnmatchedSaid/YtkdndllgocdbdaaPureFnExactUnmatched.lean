/- FnExactUnmatched: the program's Unmatched names the left events that the reference names, in new memory, and leaves both lists alone: for all lists and times. -/
import Derived.Test.YtkdndllgocdbdaaPFnExactUnmatchedx
import Derived.Test.YtkdndllgocdbdaaKit
namespace Go.Proofs.Ytkdndllgocdbdaa.Pure
open Go.RowKit Go.Proofs.Ytkdndllgocdbdaa.PFnExactUnmatched Go.Proofs.YtkdndllgocdbdaaW.PrintWords Go.Proofs.YtkdndllgocdbdaaW.PrintLast Go.Proofs.YtkdndllgocdbdaaW.PrintMore Go.Proofs.Ytkdndllgocdbdaa.Kit
set_option linter.unusedVariables false
set_option linter.unusedSimpArgs false

theorem rdFrame_at {xs : List S56} {i : Nat} (h : i < xs.length) : rd_T56 xs (i : Int) = xs[i] := by
  simp [rd_T56, List.getD_eq_getElem?_getD, List.getElem?_eq_getElem h]
theorem rdFrame_set {xs : List S56} {i : Nat} (h : i < xs.length) (v : S56) : rd_T56 (xs.set i v) (i : Int) = v := by
  rw [rdFrame_at (by simpa using h)]
  simp

theorem rdLFrame_at {xs : List S53} {i : Nat} (h : i < xs.length) : rd_T53 xs (i : Int) = xs[i] := by
  simp [rd_T53, List.getD_eq_getElem?_getD, List.getElem?_eq_getElem h]
def cvFrame (x : S53) : S56 := ⟨x.f0, x.f1, x.f2, x.f3⟩
theorem toFrameS_l0 (l : List S53) (hl : l.length ≤ 9223372036854775807) : ∀ (d i : Nat) (x : List S56), i + d = l.length → x.length = (l.map cvFrame).length → x.take i = (l.map cvFrame).take i →
    Evt fun k => laws_toFrameS.l0 k l x (i : Int) = some (l.map cvFrame) := by
  intro d
  induction d with
  | zero =>
    intro i x h hx ht
    refine Evt.step0 fun k => ?_
    rw [laws_toFrameS.l0, if_neg (by omega), fill_end hx (by simp; omega) ht]
  | succ d ih =>
    intro i x h hx ht
    have hi : i < l.length := by omega
    obtain ⟨h1, h2⟩ := fill_step (v := cvFrame l[i]) hx (by simpa using hi) ht (by simp)
    have hxl : (i : Int) < (x.length : Int) := by rw [hx, List.length_map]; omega
    refine (ih (i + 1) (x.set i (cvFrame l[i])) (by omega) h1 h2).step fun k hk => ?_
    rw [laws_toFrameS.l0, if_pos (ilt hi), if_pos (i0 i), rdLFrame_at hi]
    simp only [laws_toFrame.f, Option.bind_some, Int.toNat_natCast]
    rw [if_pos hxl, wrap_nat hi hl]
    exact hk
theorem toFrameS_ev (l : List S53) (hl : l.length ≤ 1048576) : Evt fun k => laws_toFrameS.f k l = some (l.map cvFrame) := by
  refine (toFrameS_l0 l (by omega) l.length 0 (List.replicate l.length z56) (by omega) (by simp) (by simp)).map fun k hk => ?_
  rw [laws_toFrameS.f, if_pos (by omega), if_pos (by omega)]
  exact hk

theorem eqFrame_refl (x : S56) : laws_eqFrame.f x.f0 x.f1 x.f2 x.f3 x.f0 x.f1 x.f2 x.f3 = some true := by simp [laws_eqFrame.f]
theorem eqFrameS_l0 (l : List S56) (hl : l.length ≤ 9223372036854775807) : ∀ (d i : Nat), i + d = l.length → Evt fun k => laws_eqFrameS.l0 k l l (i : Int) = some true := by
  intro d
  induction d with
  | zero =>
    intro i h
    refine Evt.step0 fun k => ?_
    rw [laws_eqFrameS.l0, if_neg (by omega)]
  | succ d ih =>
    intro i h
    have hi : i < l.length := by omega
    refine (ih (i + 1) (by omega)).step fun k hk => ?_
    rw [laws_eqFrameS.l0, if_pos (ilt hi), if_pos (i0 i), if_pos (ilt hi), eqFrame_refl]
    simp only [Option.bind_some, if_true]
    rw [wrap_nat hi hl]
    exact hk
theorem eqFrameS_ev (l : List S56) (hl : l.length ≤ 9223372036854775807) : Evt fun k => laws_eqFrameS.f k l l = some true :=
  (eqFrameS_l0 l hl l.length 0 (by omega)).map fun k hk => by rw [laws_eqFrameS.f, if_pos rfl]; exact hk

theorem l01In_eq (a b c : Int) : spec_l01In.f a b c = some (decide (b ≤ a ∧ a ≤ c)) := by
  unfold spec_l01In.f
  by_cases h : b ≤ a <;> simp [h]
theorem within_eq (a b c : Int) : impl_within.f a b c = some (decide (b ≤ a ∧ a ≤ c)) := by
  unfold impl_within.f
  by_cases h : b ≤ a <;> simp [h]

/-- A right frame. -/
def frameB (kind key time value : Int) : Bool :=
  if kind = 1 then decide ((0 ≤ key ∧ key ≤ 65535) ∧ (0 ≤ time ∧ time ≤ 1000000) ∧ (-1000000 ≤ value ∧ value ≤ 1000000))
  else if kind = 2 then decide (key = 0 ∧ (0 ≤ time ∧ time ≤ 1000000) ∧ value = 0)
  else decide (kind = 3 ∧ key = 0 ∧ time = 0 ∧ value = 0)
theorem impl_isTime_eq (t : Int) : impl_isTime.f t = some (decide (0 ≤ t ∧ t ≤ 1000000)) := by
  unfold impl_isTime.f
  simp only [within_eq, Option.bind_some]
theorem impl_isKey_eq (t : Int) : impl_isKey.f t = some (decide (0 ≤ t ∧ t ≤ 65535)) := by
  unfold impl_isKey.f
  simp only [within_eq, Option.bind_some]
theorem impl_isValue_eq (t : Int) : impl_isValue.f t = some (decide (-1000000 ≤ t ∧ t ≤ 1000000)) := by
  unfold impl_isValue.f
  simp only [within_eq, Option.bind_some]
theorem spec_FrameOk_eq (a b c d : Int) : spec_FrameOk.f a b c d = some (frameB a b c d) := by
  unfold spec_FrameOk.f frameB
  simp only [l01In_eq, Option.bind_some]
  by_cases h1 : a = 1
  · by_cases hb : 0 ≤ b ∧ b ≤ 65535 <;> by_cases hc : 0 ≤ c ∧ c ≤ 1000000 <;> simp [h1, hb, hc]
  · by_cases h2 : a = 2
    · by_cases hb : b = 0 <;> by_cases hc : 0 ≤ c ∧ c ≤ 1000000 <;> by_cases hd : d = 0 <;> simp [h2, hb, hc, hd]
    · by_cases h3 : a = 3
      · by_cases hb : b = 0 <;> by_cases hc : c = 0 <;> by_cases hd : d = 0 <;> simp [h3, hb, hc, hd]
      · simp [h1, h2, h3]
theorem impl_FrameOk_eq (a b c d : Int) : impl_FrameOk.f a b c d = some (frameB a b c d) := by
  unfold impl_FrameOk.f frameB
  simp only [impl_isKey_eq, impl_isTime_eq, impl_isValue_eq, Option.bind_some]
  by_cases h1 : a = 1
  · by_cases hb : 0 ≤ b ∧ b ≤ 65535 <;> by_cases hc : 0 ≤ c ∧ c ≤ 1000000 <;> simp [h1, hb, hc]
  · by_cases h2 : a = 2
    · by_cases hb : b = 0 <;> by_cases hc : 0 ≤ c ∧ c ≤ 1000000 <;> by_cases hd : d = 0 <;> simp [h2, hb, hc, hd]
    · by_cases h3 : a = 3
      · by_cases hb : b = 0 <;> by_cases hc : c = 0 <;> by_cases hd : d = 0 <;> simp [h3, hb, hc, hd]
      · simp [h1, h2, h3]
/-- A right event. -/
def eventB (s : S56) : Bool := decide (s.f0 = 1) && frameB s.f0 s.f1 s.f2 s.f3
theorem impl_isEvent_eq (s : S56) : impl_isEvent.f s.f0 s.f1 s.f2 s.f3 = some (eventB s) := by
  unfold impl_isEvent.f eventB
  simp only [impl_FrameOk_eq, Option.bind_some]
  by_cases h : s.f0 = 1 <;> simp [h]

theorem spec_l12Event_eq (s : S56) : spec_l12Event.f s.f0 s.f1 s.f2 s.f3 = some (eventB s) := by
  unfold spec_l12Event.f eventB
  simp only [spec_FrameOk_eq, Option.bind_some]
  by_cases h : frameB s.f0 s.f1 s.f2 s.f3 = true
  · simp only [h, if_true]; by_cases h1 : s.f0 = 1 <;> simp [h1]
  · simp [h]
/-- Right events, and not too many. -/
def eventsB (l : List S56) : Bool := decide (l.length ≤ 40) && l.all eventB
theorem spec_l12Events_l0 (l : List S56) (hl : l.length ≤ 1048576) : ∀ (d i : Nat), i + d = l.length → Evt fun k => spec_l12Events.l0 k l (i : Int) = some ((l.drop i).all eventB) := by
  intro d
  induction d with
  | zero =>
    intro i h
    refine Evt.step0 fun k => ?_
    rw [spec_l12Events.l0, if_neg (by omega), List.drop_of_length_le (by omega)]
    rfl
  | succ d ih =>
    intro i h
    have hi : i < l.length := by omega
    refine (ih (i + 1) (by omega)).step fun k hk => ?_
    rw [spec_l12Events.l0, if_pos (ilt hi), if_pos (i0 i), rdFrame_at hi, spec_l12Event_eq, drop_at hi, List.all_cons]
    simp only [Option.bind_some]
    rw [wrap_nat hi (by omega), hk]
    by_cases h1 : eventB l[i] = true <;> simp [h1]
theorem spec_l12Events_ev (l : List S56) (hl : l.length ≤ 1048576) : Evt fun k => spec_l12Events.f k l = some (eventsB l) := by
  refine (spec_l12Events_l0 l hl l.length 0 (by omega)).map fun k hk => ?_
  unfold spec_l12Events.f eventsB
  by_cases h : l.length ≤ 40
  · rw [if_neg (by omega)]
    simpa [h] using hk
  · rw [if_pos (by omega)]
    simp [h]
theorem impl_areEvents_1_eq (s : S56) : impl_areEvents_1.f s.f0 s.f1 s.f2 s.f3 = some (!eventB s) := by
  unfold impl_areEvents_1.f
  rw [impl_isEvent_eq]
  rfl
theorem index_areEvents_l0 (l : List S56) (hl : l.length ≤ 1048576) : ∀ (d i : Nat), i + d = l.length →
    ∃ r : Int, (Evt fun k => slices_IndexFunc_impl_Frame_impl_Frame_impl_areEvents_1.l0 k l (l.length : Int) (i : Int) = some r) ∧ decide (r ≥ 0) = !(l.drop i).all eventB := by
  intro d
  induction d with
  | zero =>
    intro i h
    refine ⟨-1, Evt.step0 fun k => ?_, ?_⟩
    · rw [slices_IndexFunc_impl_Frame_impl_Frame_impl_areEvents_1.l0, if_neg (by omega)]
    · rw [List.drop_of_length_le (by omega)]; rfl
  | succ d ih =>
    intro i h
    have hi : i < l.length := by omega
    by_cases h1 : eventB l[i] = true
    · obtain ⟨r, hr, hb⟩ := ih (i + 1) (by omega)
      refine ⟨r, hr.step fun k hk => ?_, ?_⟩
      · rw [slices_IndexFunc_impl_Frame_impl_Frame_impl_areEvents_1.l0, if_pos (ilt hi), if_pos (i0 i), if_pos (ilt hi), rdFrame_at hi, impl_areEvents_1_eq]
        simp only [Option.bind_some, h1]
        rw [if_neg (by simp), wrap_nat hi (by omega), hk]
      · rw [drop_at hi, List.all_cons, h1, hb]; simp
    · refine ⟨(i : Int), Evt.step0 fun k => ?_, ?_⟩
      · rw [slices_IndexFunc_impl_Frame_impl_Frame_impl_areEvents_1.l0, if_pos (ilt hi), if_pos (i0 i), if_pos (ilt hi), rdFrame_at hi, impl_areEvents_1_eq]
        simp [h1]
      · rw [drop_at hi, List.all_cons]; simp [h1]
theorem impl_areEvents_ev (l : List S56) (hl : l.length ≤ 1048576) : Evt fun k => impl_areEvents.f k l = some (eventsB l) := by
  obtain ⟨r, hr, hb⟩ := index_areEvents_l0 l hl l.length 0 (by omega)
  refine hr.map fun k hk => ?_
  have hk' : slices_IndexFunc_impl_Frame_impl_Frame_impl_areEvents_1.f k l () = some r := hk
  unfold impl_areEvents.f eventsB slices_ContainsFunc_impl_Frame_impl_Frame_impl_areEvents_1.f
  rw [hk']
  by_cases h : l.length ≤ 40
  · rw [if_pos (by omega)]
    simp only [Option.bind_some, hb]
    simp [h]
  · rw [if_neg (by omega)]
    simp [h]

theorem szFrameS_eq (l : List S53) (n : Int) (hn : 0 ≤ n ∧ n ≤ 1048576) (hl : l.length ≤ 9223372036854775807) : laws_szFrameS.f l n = some (if n - (l.length : Int) < 0 then -1 else n - (l.length : Int)) := by
  have hw : wrap64 (n - (l.length : Int)) = n - (l.length : Int) := wrap_in (by omega) (by omega)
  unfold laws_szFrameS.f
  rw [hw]
  by_cases h : n - (l.length : Int) < 0 <;> simp [h]

def mkFrame (b : Int) : S56 := ⟨b, b + 1, b + 1 + 1, b + 1 + 1 + 1⟩
theorem markFrameS_l0 (a : Int) (y : List S56) (ha : 0 ≤ a) (hl : a + 4 * y.length ≤ 9223372036854775807) (hy : ∀ (i : Nat) (h : i < y.length), y[i] = mkFrame (a + 4 * (i : Int))) :
    ∀ (d i : Nat) (x : List S56) (b : Int), i + d = y.length → b = a + 4 * (i : Int) → x.length = y.length → x.take i = y.take i →
    Evt fun k => laws_markFrameS.l0 k x b (i : Int) = some (a + 4 * y.length, y) := by
  intro d
  induction d with
  | zero =>
    intro i x b h hb hx ht
    refine Evt.step0 fun k => ?_
    rw [laws_markFrameS.l0, if_neg (by omega), fill_end hx (by omega) ht]
    simp
    omega
  | succ d ih =>
    intro i x b h hb hx ht
    have hi : i < y.length := by omega
    have hxi : i < x.length := by omega
    obtain ⟨h1, h2⟩ := fill_step (v := mkFrame b) hx hi ht (by rw [hy i hi, hb])
    have e1 : wrap64 (b + 1) = b + 1 := wrap_in (by omega) (by omega)
    have e2 : wrap64 (b + 1 + 1) = b + 1 + 1 := wrap_in (by omega) (by omega)
    have e3 : wrap64 (b + 1 + 1 + 1) = b + 1 + 1 + 1 := wrap_in (by omega) (by omega)
    have e4 : wrap64 (b + 1 + 1 + 1 + 1) = b + 1 + 1 + 1 + 1 := wrap_in (by omega) (by omega)
    refine (ih (i + 1) (x.set i (mkFrame b)) (b + 1 + 1 + 1 + 1) (by omega) (by omega) h1 h2).step fun k hk => ?_
    rw [laws_markFrameS.l0, if_pos (ilt hxi), if_pos (i0 i), wrap_nat hxi (by omega)]
    simp only [Option.bind_some, Int.toNat_natCast, List.set_set, rdFrame_set hxi, e1, e2, e3, e4]
    exact hk
theorem markxFrameS_ev (a : Int) (l : List S56) (ha : 0 ≤ a) (hl : a + 4 * l.length ≤ 9223372036854775807) :
    ∃ y : List S56, y.length = l.length ∧ Evt fun k => laws_markFrameS.f k l a = some (a + 4 * l.length, y) := by
  have hy : ∀ (i : Nat) (h : i < ((List.range l.length).map fun (j : Nat) => mkFrame (a + 4 * (j : Int))).length), ((List.range l.length).map fun (j : Nat) => mkFrame (a + 4 * (j : Int)))[i] = mkFrame (a + 4 * (i : Int)) := fun i h => by simp
  have hn : ((List.range l.length).map fun (j : Nat) => mkFrame (a + 4 * (j : Int))).length = l.length := by simp
  refine ⟨(List.range l.length).map fun (j : Nat) => mkFrame (a + 4 * (j : Int)), hn, ?_⟩
  have := markFrameS_l0 a _ ha (by rw [hn]; exact hl) hy l.length 0 l a (by rw [hn]; omega) (by omega) hn.symm (by simp)
  simpa [laws_markFrameS.f] using this

theorem rdPair_at {xs : List S84} {i : Nat} (h : i < xs.length) : rd_T84 xs (i : Int) = xs[i] := by
  simp [rd_T84, List.getD_eq_getElem?_getD, List.getElem?_eq_getElem h]
theorem rdPair_set {xs : List S84} {i : Nat} (h : i < xs.length) (v : S84) : rd_T84 (xs.set i v) (i : Int) = v := by
  rw [rdPair_at (by simpa using h)]
  simp

/-- Do two events meet? -/
def meetB (a b : S56) (t : Int) : Bool := decide (a.f1 = b.f1) && decide (a.f2 - b.f2 ≤ t ∧ b.f2 - a.f2 ≤ t)
def pairOf (a b : S56) : S84 := ⟨a.f1, a.f2, b.f2, a.f3, b.f3⟩
theorem event_range {s : S56} (h : eventB s = true) : s.f0 = 1 ∧ (0 ≤ s.f1 ∧ s.f1 ≤ 65535) ∧ (0 ≤ s.f2 ∧ s.f2 ≤ 1000000) ∧ (-1000000 ≤ s.f3 ∧ s.f3 ≤ 1000000) := by
  unfold eventB frameB at h
  by_cases h1 : s.f0 = 1
  · simp [h1] at h
    exact ⟨h1, by omega, by omega, by omega⟩
  · simp [h1] at h
theorem spec_meet_eq (a b : S56) (t : Int) (ha : 0 ≤ a.f2 ∧ a.f2 ≤ 1000000) (hb : 0 ≤ b.f2 ∧ b.f2 ≤ 1000000) : spec_l12Meet.f a.f0 a.f1 a.f2 a.f3 b.f0 b.f1 b.f2 b.f3 t = some (meetB a b t) := by
  unfold spec_l12Meet.f meetB
  have w1 : wrap64 (a.f2 - b.f2) = a.f2 - b.f2 := wrap_in (by omega) (by omega)
  have w2 : wrap64 (-(a.f2 - b.f2)) = -(a.f2 - b.f2) := wrap_in (by omega) (by omega)
  rw [w1, w2]
  by_cases h1 : a.f1 = b.f1
  · by_cases h2 : a.f2 - b.f2 < 0
    · simp only [h1, h2, if_true, decide_true, Bool.true_and, Option.some.injEq, decide_eq_decide]
      omega
    · simp only [h1, h2, if_true, if_false, decide_true, Bool.true_and, Option.some.injEq, decide_eq_decide]
      omega
  · by_cases h2 : a.f2 - b.f2 < 0 <;> simp [h1, h2]
theorem impl_meet_eq (a b : S56) (t : Int) (ha : 0 ≤ a.f2 ∧ a.f2 ≤ 1000000) (hb : 0 ≤ b.f2 ∧ b.f2 ≤ 1000000) : impl_meet.f a.f0 a.f1 a.f2 a.f3 b.f0 b.f1 b.f2 b.f3 t = some (meetB a b t) := by
  unfold impl_meet.f meetB mx
  have w1 : wrap64 (a.f2 - b.f2) = a.f2 - b.f2 := wrap_in (by omega) (by omega)
  have w2 : wrap64 (-(a.f2 - b.f2)) = -(a.f2 - b.f2) := wrap_in (by omega) (by omega)
  rw [w1, w2]
  by_cases h1 : a.f1 = b.f1
  · simp only [h1, if_true, decide_true, Bool.true_and, Option.some.injEq, decide_eq_decide]
    split <;> omega
  · simp [h1]
/-- The pairs of one left event. -/
def pairs1 (a : S56) (r : List S56) (t : Int) : List S84 := (r.filter fun b => meetB a b t).map (pairOf a)
def pairsOf (l r : List S56) (t : Int) : List S84 := l.flatMap fun a => pairs1 a r t
theorem pairs1_cons (a b : S56) (r : List S56) (t : Int) : pairs1 a (b :: r) t = (if meetB a b t = true then [pairOf a b] else []) ++ pairs1 a r t := by
  unfold pairs1
  rw [List.filter_cons]
  split <;> simp
theorem pairs1_le (a : S56) (r : List S56) (t : Int) : (pairs1 a r t).length ≤ r.length := by
  unfold pairs1
  rw [List.length_map]
  exact List.length_filter_le _ _
theorem pairsOf_cons (a : S56) (l r : List S56) (t : Int) : pairsOf (a :: l) r t = pairs1 a r t ++ pairsOf l r t := rfl
theorem pairsOf_le (l r : List S56) (t : Int) : (pairsOf l r t).length ≤ l.length * r.length := by
  induction l with
  | nil => simp [pairsOf]
  | cons a l ih =>
    rw [pairsOf_cons, List.length_append, List.length_cons, Nat.add_mul, Nat.one_mul]
    have := pairs1_le a r t
    omega
def Ev40 (l : List S56) : Prop := l.length ≤ 40 ∧ ∀ s ∈ l, eventB s = true
theorem ev40_of {l : List S56} (h : eventsB l = true) : Ev40 l := by
  unfold eventsB at h
  simp only [Bool.and_eq_true, decide_eq_true_eq, List.all_eq_true] at h
  exact h
theorem ev40_time {l : List S56} (h : Ev40 l) {i : Nat} (hi : i < l.length) : 0 ≤ l[i].f2 ∧ l[i].f2 ≤ 1000000 := (event_range (h.2 _ (List.getElem_mem hi))).2.2.1
theorem spec_JoinWithin_l1 (l r : List S56) (t : Int) (hl : Ev40 l) (hr : Ev40 r) (i : Nat) (hi : i < l.length) (B : Nat) (hB : B ≤ 2000)
    (hnext : ∀ out : List S84, out.length ≤ B + r.length → (Evt fun k => spec_JoinWithin.l0 k l r t out ((i + 1 : Nat) : Int) = some (out ++ pairsOf (l.drop (i + 1)) r t, true))) :
    ∀ (d j : Nat) (out : List S84), j + d = r.length → out.length ≤ B + j →
      Evt fun k => spec_JoinWithin.l1 k l r t out (i : Int) (j : Int) = some (out ++ (pairs1 l[i] (r.drop j) t ++ pairsOf (l.drop (i + 1)) r t), true) := by
  intro d
  induction d with
  | zero =>
    intro j out h ho
    refine (hnext out (by omega)).step fun k hk => ?_
    have hd : r.drop j = [] := List.drop_of_length_le (by omega)
    rw [spec_JoinWithin.l1, if_neg (by omega), wrap_nat hi (by have := hl.1; omega), hk, hd]
    simp [pairs1]
  | succ d ih =>
    intro j out h ho
    have hj : j < r.length := by omega
    have hm := spec_meet_eq l[i] r[j] t (ev40_time hl hi) (ev40_time hr hj)
    by_cases hb : meetB l[i] r[j] t = true
    · refine (ih (j + 1) (out ++ [pairOf l[i] r[j]]) (by omega) (by simp; omega)).step fun k hk => ?_
      rw [spec_JoinWithin.l1, if_pos (ilt hj), if_pos (i0 i), if_pos (ilt hi), if_pos (i0 j), rdFrame_at hi, rdFrame_at hj, hm]
      simp only [Option.bind_some]
      rw [if_pos hb]
      simp only [spec_l12Pair.f, Option.bind_some]
      rw [if_pos (by have := hr.1; omega), wrap_nat hj (by have := hr.1; omega), drop_at hj, pairs1_cons, if_pos hb]
      refine Eq.trans hk ?_
      simp
    · refine (ih (j + 1) out (by omega) (by omega)).step fun k hk => ?_
      rw [spec_JoinWithin.l1, if_pos (ilt hj), if_pos (i0 i), if_pos (ilt hi), if_pos (i0 j), rdFrame_at hi, rdFrame_at hj, hm]
      simp only [Option.bind_some]
      rw [if_neg hb, wrap_nat hj (by have := hr.1; omega), drop_at hj, pairs1_cons, if_neg hb]
      exact hk
theorem spec_JoinWithin_l0 (l r : List S56) (t : Int) (hl : Ev40 l) (hr : Ev40 r) : ∀ (d i : Nat) (out : List S84), i + d = l.length → out.length ≤ i * 40 →
    Evt fun k => spec_JoinWithin.l0 k l r t out (i : Int) = some (out ++ pairsOf (l.drop i) r t, true) := by
  intro d
  induction d with
  | zero =>
    intro i out h ho
    refine Evt.step0 fun k => ?_
    rw [spec_JoinWithin.l0, if_neg (by omega), List.drop_of_length_le (by omega)]
    simp [pairsOf]
  | succ d ih =>
    intro i out h ho
    have hi : i < l.length := by omega
    have hl40 := hl.1
    have hr40 := hr.1
    refine (spec_JoinWithin_l1 l r t hl hr i hi (i * 40) (by omega) (fun out' ho' => ih (i + 1) out' (by omega) (by omega)) r.length 0 out (by omega) (by omega)).step fun k hk => ?_
    rw [spec_JoinWithin.l0, if_pos (ilt hi), drop_at hi, pairsOf_cons]
    exact hk
theorem impl_JoinWithin_l1 (l r : List S56) (t : Int) (hl : Ev40 l) (hr : Ev40 r) (i : Nat) (hi : i < l.length) (B : Nat) (hB : B ≤ 2000)
    (hnext : ∀ out : List S84, out.length ≤ B + r.length → (Evt fun k => impl_JoinWithin.l0 k r t out l (l.length : Int) ((i + 1 : Nat) : Int) = some (out ++ pairsOf (l.drop (i + 1)) r t, true))) :
    ∀ (d j : Nat) (out : List S84), j + d = r.length → out.length ≤ B + j →
      Evt fun k => impl_JoinWithin.l1 k r t out l (l.length : Int) (i : Int) r (r.length : Int) (j : Int) l[i].f0 l[i].f1 l[i].f2 l[i].f3 = some (out ++ (pairs1 l[i] (r.drop j) t ++ pairsOf (l.drop (i + 1)) r t), true) := by
  intro d
  induction d with
  | zero =>
    intro j out h ho
    refine (hnext out (by omega)).step fun k hk => ?_
    have hd : r.drop j = [] := List.drop_of_length_le (by omega)
    rw [impl_JoinWithin.l1, if_neg (by omega), wrap_nat hi (by have := hl.1; omega), hk, hd]
    simp [pairs1]
  | succ d ih =>
    intro j out h ho
    have hj : j < r.length := by omega
    have hm := impl_meet_eq l[i] r[j] t (ev40_time hl hi) (ev40_time hr hj)
    by_cases hb : meetB l[i] r[j] t = true
    · refine (ih (j + 1) (out ++ [pairOf l[i] r[j]]) (by omega) (by simp; omega)).step fun k hk => ?_
      rw [impl_JoinWithin.l1, if_pos (ilt hj), if_pos (i0 j), if_pos (ilt hj), rdFrame_at hj, hm]
      simp only [Option.bind_some]
      rw [if_pos hb]
      simp only [impl_pairOf.f, Option.bind_some]
      rw [if_pos (by have := hr.1; omega), wrap_nat hj (by have := hr.1; omega), drop_at hj, pairs1_cons, if_pos hb]
      refine Eq.trans hk ?_
      simp
    · refine (ih (j + 1) out (by omega) (by omega)).step fun k hk => ?_
      rw [impl_JoinWithin.l1, if_pos (ilt hj), if_pos (i0 j), if_pos (ilt hj), rdFrame_at hj, hm]
      simp only [Option.bind_some]
      rw [if_neg hb, wrap_nat hj (by have := hr.1; omega), drop_at hj, pairs1_cons, if_neg hb]
      exact hk
theorem impl_JoinWithin_l0 (l r : List S56) (t : Int) (hl : Ev40 l) (hr : Ev40 r) : ∀ (d i : Nat) (out : List S84), i + d = l.length → out.length ≤ i * 40 →
    Evt fun k => impl_JoinWithin.l0 k r t out l (l.length : Int) (i : Int) = some (out ++ pairsOf (l.drop i) r t, true) := by
  intro d
  induction d with
  | zero =>
    intro i out h ho
    refine Evt.step0 fun k => ?_
    rw [impl_JoinWithin.l0, if_neg (by omega), List.drop_of_length_le (by omega)]
    simp [pairsOf]
  | succ d ih =>
    intro i out h ho
    have hi : i < l.length := by omega
    have hl40 := hl.1
    have hr40 := hr.1
    refine (impl_JoinWithin_l1 l r t hl hr i hi (i * 40) (by omega) (fun out' ho' => ih (i + 1) out' (by omega) (by omega)) r.length 0 out (by omega) (by omega)).step fun k hk => ?_
    rw [impl_JoinWithin.l0, if_pos (ilt hi), if_pos (i0 i), if_pos (ilt hi), drop_at hi, pairsOf_cons, rdFrame_at hi]
    exact hk
/-- What JoinWithin comes to. -/
def joinWithin (l r : List S56) (t : Int) : List S84 × Bool := if eventsB l = true ∧ eventsB r = true ∧ (0 ≤ t ∧ t ≤ 1000000) then (pairsOf l r t, true) else ([], false)
theorem spec_JoinWithin_ev (l r : List S56) (t : Int) (hl : l.length ≤ 1048576) (hr : r.length ≤ 1048576) : Evt fun k => spec_JoinWithin.f k l r t = some (joinWithin l r t) := by
  have e1 := spec_l12Events_ev l hl
  have e2 := spec_l12Events_ev r hr
  unfold joinWithin
  by_cases h1 : eventsB l = true
  · by_cases h2 : eventsB r = true
    · by_cases h3 : 0 ≤ t ∧ t ≤ 1000000
      · have e3 := spec_JoinWithin_l0 l r t (ev40_of h1) (ev40_of h2) l.length 0 [] (by omega) (by simp)
        have e4 : Evt fun k => spec_JoinWithin.j0 k l r t false = some (pairsOf l r t, true) := e3.step fun k hk => by
          rw [spec_JoinWithin.j0, if_neg (by simp)]
          exact hk
        refine (e1.and (e2.and e4)).map fun k ⟨a1, a2, a4⟩ => ?_
        simp only [spec_JoinWithin.f, a1, a2, l01In_eq, Option.bind_some, h1, h2, h3, and_self, if_true, decide_true, Bool.not_true, a4]
      · have e4 : Evt fun k => spec_JoinWithin.j0 k l r t true = some ([], false) := Evt.step0 fun k => by rw [spec_JoinWithin.j0, if_pos rfl]
        refine (e1.and (e2.and e4)).map fun k ⟨a1, a2, a4⟩ => ?_
        simp only [spec_JoinWithin.f, a1, a2, l01In_eq, Option.bind_some, h1, h2, h3, if_true, decide_false, Bool.not_false, a4, and_false, if_false]
    · have e4 : Evt fun k => spec_JoinWithin.j0 k l r t true = some ([], false) := Evt.step0 fun k => by rw [spec_JoinWithin.j0, if_pos rfl]
      refine (e1.and (e2.and e4)).map fun k ⟨a1, a2, a4⟩ => ?_
      simp only [spec_JoinWithin.f, a1, a2, Option.bind_some, h1, h2, if_true, a4, false_and, and_false, if_false, Bool.false_eq_true]
  · have e4 : Evt fun k => spec_JoinWithin.j0 k l r t true = some ([], false) := Evt.step0 fun k => by rw [spec_JoinWithin.j0, if_pos rfl]
    refine (e1.and e4).map fun k ⟨a1, a4⟩ => ?_
    simp only [spec_JoinWithin.f, a1, Option.bind_some, h1, a4, false_and, if_false, Bool.false_eq_true]
theorem impl_JoinWithin_ev (l r : List S56) (t : Int) (hl : l.length ≤ 1048576) (hr : r.length ≤ 1048576) : Evt fun k => impl_JoinWithin.f k l r t = some (joinWithin l r t) := by
  have e1 := impl_areEvents_ev l hl
  have e2 := impl_areEvents_ev r hr
  unfold joinWithin
  by_cases h1 : eventsB l = true
  · by_cases h2 : eventsB r = true
    · by_cases h3 : 0 ≤ t ∧ t ≤ 1000000
      · have e3 := impl_JoinWithin_l0 l r t (ev40_of h1) (ev40_of h2) l.length 0 [] (by omega) (by simp)
        have e4 : Evt fun k => impl_JoinWithin.j0 k l r t false = some (pairsOf l r t, true) := e3.step fun k hk => by
          rw [impl_JoinWithin.j0, if_neg (by simp)]
          exact hk
        refine (e1.and (e2.and e4)).map fun k ⟨a1, a2, a4⟩ => ?_
        simp only [impl_JoinWithin.f, a1, a2, impl_isTime_eq, Option.bind_some, h1, h2, h3, and_self, if_true, decide_true, Bool.not_true, a4]
      · have e4 : Evt fun k => impl_JoinWithin.j0 k l r t true = some ([], false) := Evt.step0 fun k => by rw [impl_JoinWithin.j0, if_pos rfl]
        refine (e1.and (e2.and e4)).map fun k ⟨a1, a2, a4⟩ => ?_
        simp only [impl_JoinWithin.f, a1, a2, impl_isTime_eq, Option.bind_some, h1, h2, h3, if_true, decide_false, Bool.not_false, a4, and_false, if_false]
    · have e4 : Evt fun k => impl_JoinWithin.j0 k l r t true = some ([], false) := Evt.step0 fun k => by rw [impl_JoinWithin.j0, if_pos rfl]
      refine (e1.and (e2.and e4)).map fun k ⟨a1, a2, a4⟩ => ?_
      simp only [impl_JoinWithin.f, a1, a2, Option.bind_some, h1, h2, if_true, a4, false_and, and_false, if_false, Bool.false_eq_true]
  · have e4 : Evt fun k => impl_JoinWithin.j0 k l r t true = some ([], false) := Evt.step0 fun k => by rw [impl_JoinWithin.j0, if_pos rfl]
    refine (e1.and e4).map fun k ⟨a1, a4⟩ => ?_
    simp only [impl_JoinWithin.f, a1, Option.bind_some, h1, a4, false_and, if_false, Bool.false_eq_true]
theorem joinWithin_le (l r : List S56) (t : Int) : (joinWithin l r t).1.length ≤ 1600 := by
  unfold joinWithin
  split
  · rename_i h
    have h1 := (ev40_of h.1).1
    have h2 := (ev40_of h.2.1).1
    have := pairsOf_le l r t
    have h3 : l.length * r.length ≤ 40 * 40 := Nat.mul_le_mul h1 h2
    show (pairsOf l r t).length ≤ 1600
    omega
  · simp

theorem eqIntS_l0 (l : List Int) (hl : l.length ≤ 9223372036854775807) : ∀ (d i : Nat), i + d = l.length → Evt fun k => laws_eqIntS.l0 k l l (i : Int) = some true := by
  intro d
  induction d with
  | zero =>
    intro i h
    refine Evt.step0 fun k => ?_
    rw [laws_eqIntS.l0, if_neg (by omega)]
  | succ d ih =>
    intro i h
    have hi : i < l.length := by omega
    refine (ih (i + 1) (by omega)).step fun k hk => ?_
    rw [laws_eqIntS.l0, if_pos (ilt hi), if_pos (i0 i), if_pos (ilt hi), if_pos rfl, wrap_nat hi hl]
    exact hk
theorem eqIntS_ev (l : List Int) (hl : l.length ≤ 9223372036854775807) : Evt fun k => laws_eqIntS.f k l l = some true :=
  (eqIntS_l0 l hl l.length 0 (by omega)).map fun k hk => by rw [laws_eqIntS.f, if_pos rfl]; exact hk

theorem markIntS_l0 (a : Int) (y : List Int) (ha : 0 ≤ a) (hl : a + y.length ≤ 9223372036854775807) (hy : ∀ (i : Nat) (h : i < y.length), y[i] = a + (i : Int)) : ∀ (d i : Nat) (x : List Int), i + d = y.length → x.length = y.length → x.take i = y.take i →
    Evt fun k => laws_markIntS.l0 k x (a + i) (i : Int) = some (a + y.length, y) := by
  intro d
  induction d with
  | zero =>
    intro i x h hx ht
    refine Evt.step0 fun k => ?_
    rw [laws_markIntS.l0, if_neg (by omega), fill_end hx (by omega) ht]
    simp
    omega
  | succ d ih =>
    intro i x h hx ht
    have hi : i < y.length := by omega
    obtain ⟨h1, h2⟩ := fill_step (v := a + (i : Int)) hx hi ht (hy i hi)
    refine (ih (i + 1) (x.set i (a + (i : Int))) (by omega) h1 h2).step fun k hk => ?_
    rw [laws_markIntS.l0, if_pos (by omega), if_pos (i0 i), wrap_nat hi (by omega), wrap_in (by omega) (by omega)]
    simp only [Int.toNat_natCast]
    rw [show a + (i : Int) + 1 = a + ((i + 1 : Nat) : Int) by omega]
    exact hk
theorem heldIntS_l0 (a : Int) (y : List Int) (ha : 0 ≤ a) (hl : a + y.length ≤ 9223372036854775807) (hy : ∀ (i : Nat) (h : i < y.length), y[i] = a + (i : Int)) : ∀ (d i : Nat), i + d = y.length →
    Evt fun k => laws_heldIntS.l0 k y (a + i) (i : Int) = some (a + y.length) := by
  intro d
  induction d with
  | zero =>
    intro i h
    refine Evt.step0 fun k => ?_
    rw [laws_heldIntS.l0, if_neg (by omega)]
    simp
    omega
  | succ d ih =>
    intro i h
    have hi : i < y.length := by omega
    refine (ih (i + 1) (by omega)).step fun k hk => ?_
    rw [laws_heldIntS.l0, if_pos (ilt hi), if_pos (i0 i), rd_at hi, if_pos (hy i hi), wrap_nat hi (by omega), wrap_in (by omega) (by omega)]
    rw [show a + (i : Int) + 1 = a + ((i + 1 : Nat) : Int) by omega]
    exact hk
theorem markIntS_ev (a : Int) (l : List Int) (ha : 0 ≤ a) (hl : a + l.length ≤ 9223372036854775807) :
    ∃ y : List Int, (Evt fun k => laws_markIntS.f k l a = some (a + l.length, y)) ∧ (Evt fun k => laws_heldIntS.f k y a = some (a + l.length)) := by
  have hy : ∀ (i : Nat) (h : i < ((List.range l.length).map fun (j : Nat) => a + (j : Int)).length), ((List.range l.length).map fun (j : Nat) => a + (j : Int))[i] = a + (i : Int) := fun i h => by simp
  have hn : ((List.range l.length).map fun (j : Nat) => a + (j : Int)).length = l.length := by simp
  refine ⟨(List.range l.length).map fun (j : Nat) => a + (j : Int), ?_, ?_⟩
  · have := markIntS_l0 a _ ha (by rw [hn]; exact hl) hy l.length 0 l (by rw [hn]; omega) hn.symm (by simp)
    simpa [laws_markIntS.f] using this
  · have := heldIntS_l0 a _ ha (by rw [hn]; exact hl) hy l.length 0 (by rw [hn]; omega)
    simpa [laws_heldIntS.f] using this
/-- The places, from i on, of the left events that meet no right one. -/
def unmatched (r : List S56) (t : Int) : Nat → List S56 → List Int
  | _, [] => []
  | i, a :: l => if (r.any fun b => meetB a b t) = true then unmatched r t (i + 1) l else (i : Int) :: unmatched r t (i + 1) l
theorem unmatched_cons (r : List S56) (t : Int) (i : Nat) (a : S56) (l : List S56) : unmatched r t i (a :: l) = if (r.any fun b => meetB a b t) = true then unmatched r t (i + 1) l else (i : Int) :: unmatched r t (i + 1) l := rfl
theorem unmatched_le (r : List S56) (t : Int) : ∀ (l : List S56) (i : Nat), (unmatched r t i l).length ≤ l.length
  | [], _ => by simp [unmatched]
  | a :: l, i => by
    have := unmatched_le r t l (i + 1)
    rw [unmatched_cons]
    split
    · simp only [List.length_cons]
      omega
    · simp only [List.length_cons]
      omega
theorem spec_Unmatched_l1 (l r : List S56) (t : Int) (hl : Ev40 l) (hr : Ev40 r) (i : Nat) (hi : i < l.length) (y : List Int) (res : Option (List Int)) : ∀ (d j : Nat) (m : Bool), j + d = r.length →
    (Evt fun k => (if (m || (r.drop j).any fun b => meetB l[i] b t) = true then spec_Unmatched.l0 k l r t y (wrap64 ((i : Int) + 1)) else if y.length < 17592186044416 then spec_Unmatched.l0 k l r t (y ++ [(i : Int)]) (wrap64 ((i : Int) + 1)) else none) = res) →
    Evt fun k => spec_Unmatched.l1 k l r t y (i : Int) m (j : Int) = res := by
  intro d
  induction d with
  | zero =>
    intro j m h hres
    refine hres.step fun k hk => ?_
    rw [List.drop_of_length_le (by omega)] at hk
    rw [spec_Unmatched.l1, if_neg (by omega)]
    simpa using hk
  | succ d ih =>
    intro j m h hres
    have hj : j < r.length := by omega
    have hrl := hr.1
    rw [drop_at hj, List.any_cons] at hres
    cases m with
    | true =>
      refine (ih (j + 1) true (by omega) (hres.map fun k hk => by rw [Bool.true_or] at hk ⊢; exact hk)).step fun k hk => ?_
      rw [spec_Unmatched.l1, if_pos (ilt hj), if_pos rfl, wrap_nat hj (by omega), hk]
    | false =>
      refine (ih (j + 1) (meetB l[i] r[j] t) (by omega) (hres.map fun k hk => by rw [Bool.false_or] at hk; exact hk)).step fun k hk => ?_
      rw [spec_Unmatched.l1, if_pos (ilt hj), if_neg (by simp), if_pos (i0 i), if_pos (ilt hi), if_pos (i0 j), rdFrame_at hi, rdFrame_at hj, spec_meet_eq _ _ _ (ev40_time hl hi) (ev40_time hr hj)]
      simp only [Option.bind_some]
      rw [wrap_nat hj (by omega), hk]
theorem spec_Unmatched_l0 (l r : List S56) (t : Int) (hl : Ev40 l) (hr : Ev40 r) : ∀ (d i : Nat) (y : List Int), i + d = l.length → y.length ≤ i → Evt fun k => spec_Unmatched.l0 k l r t y (i : Int) = some (y ++ unmatched r t i (l.drop i)) := by
  intro d
  induction d with
  | zero =>
    intro i y h hy
    refine Evt.step0 fun k => ?_
    rw [spec_Unmatched.l0, if_neg (by omega), List.drop_of_length_le (by omega)]
    simp [unmatched]
  | succ d ih =>
    intro i y h hy
    have hi : i < l.length := by omega
    have hll := hl.1
    have h1 : Evt fun k => spec_Unmatched.l1 k l r t y (i : Int) false 0 = some (y ++ unmatched r t i (l.drop i)) := by
      refine spec_Unmatched_l1 l r t hl hr i hi y _ r.length 0 false (by omega) ?_
      rw [List.drop_zero, wrap_nat hi (by omega), drop_at hi]
      by_cases hb : (r.any fun b => meetB l[i] b t) = true
      · refine (ih (i + 1) y (by omega) (by omega)).map fun k hk => ?_
        rw [unmatched_cons, if_pos hb, if_pos (by simpa using hb), hk]
      · refine (ih (i + 1) (y ++ [(i : Int)]) (by omega) (by simp; omega)).map fun k hk => ?_
        rw [unmatched_cons, if_neg hb, if_neg (by simpa using hb), if_pos (by omega), hk, List.append_assoc, List.singleton_append]
    refine h1.step fun k hk => ?_
    rw [spec_Unmatched.l0, if_pos (ilt hi)]
    exact hk
theorem impl_Unmatched_1_eq (a b : S56) (t : Int) (ha : 0 ≤ a.f2 ∧ a.f2 ≤ 1000000) (hb : 0 ≤ b.f2 ∧ b.f2 ≤ 1000000) : impl_Unmatched_1.f b.f0 b.f1 b.f2 b.f3 [a] [t] = some (meetB a b t) := by
  unfold impl_Unmatched_1.f
  have e1 : rd_T56 [a] 0 = a := rfl
  have e2 : rd [t] 0 = t := rfl
  rw [e1, e2, if_pos (by simp), if_pos (by simp), impl_meet_eq a b t ha hb]
  rfl
theorem index_Unmatched_l0 (l : List S56) (a : S56) (t : Int) (hl : Ev40 l) (ha : 0 ≤ a.f2 ∧ a.f2 ≤ 1000000) : ∀ (d i : Nat), i + d = l.length →
    ∃ r : Int, (Evt fun k => slices_IndexFunc_impl_Frame_impl_Frame_impl_Unmatched_1.l0 k l [a] [t] (l.length : Int) (i : Int) = some r) ∧ decide (r ≥ 0) = (l.drop i).any fun b => meetB a b t := by
  have hll := hl.1
  intro d
  induction d with
  | zero =>
    intro i h
    refine ⟨-1, Evt.step0 fun k => ?_, ?_⟩
    · rw [slices_IndexFunc_impl_Frame_impl_Frame_impl_Unmatched_1.l0, if_neg (by omega)]
    · rw [List.drop_of_length_le (by omega)]; rfl
  | succ d ih =>
    intro i h
    have hi : i < l.length := by omega
    by_cases h1 : meetB a l[i] t = true
    · refine ⟨(i : Int), Evt.step0 fun k => ?_, ?_⟩
      · rw [slices_IndexFunc_impl_Frame_impl_Frame_impl_Unmatched_1.l0, if_pos (ilt hi), if_pos (i0 i), if_pos (ilt hi), rdFrame_at hi, impl_Unmatched_1_eq a l[i] t ha (ev40_time hl hi)]
        simp [h1]
      · rw [drop_at hi, List.any_cons]; simp [h1]
    · obtain ⟨r, hr, hb⟩ := ih (i + 1) (by omega)
      refine ⟨r, hr.step fun k hk => ?_, ?_⟩
      · rw [slices_IndexFunc_impl_Frame_impl_Frame_impl_Unmatched_1.l0, if_pos (ilt hi), if_pos (i0 i), if_pos (ilt hi), rdFrame_at hi, impl_Unmatched_1_eq a l[i] t ha (ev40_time hl hi)]
        simp only [Option.bind_some, h1]
        rw [if_neg (by simp), wrap_nat hi (by omega), hk]
      · rw [drop_at hi, List.any_cons, hb]; simp [h1]
theorem contains_Unmatched_ev (l : List S56) (a : S56) (t : Int) (hl : Ev40 l) (ha : 0 ≤ a.f2 ∧ a.f2 ≤ 1000000) : Evt fun k => slices_ContainsFunc_impl_Frame_impl_Frame_impl_Unmatched_1.f k l () [a] [t] = some (l.any fun b => meetB a b t) := by
  obtain ⟨r, hr, hb⟩ := index_Unmatched_l0 l a t hl ha l.length 0 (by omega)
  refine hr.map fun k hk => ?_
  have hk' : slices_IndexFunc_impl_Frame_impl_Frame_impl_Unmatched_1.f k l () [a] [t] = some r := hk
  unfold slices_ContainsFunc_impl_Frame_impl_Frame_impl_Unmatched_1.f
  rw [hk']
  simp only [Option.bind_some, hb]
  rfl
theorem impl_Unmatched_l0 (l r : List S56) (t : Int) (hl : Ev40 l) (hr : Ev40 r) : ∀ (d i : Nat) (y : List Int), i + d = l.length → y.length ≤ i → Evt fun k => impl_Unmatched.l0 k r y l (l.length : Int) (i : Int) t = some (y ++ unmatched r t i (l.drop i)) := by
  have hll := hl.1
  intro d
  induction d with
  | zero =>
    intro i y h hy
    refine Evt.step0 fun k => ?_
    rw [impl_Unmatched.l0, if_neg (by omega), List.drop_of_length_le (by omega)]
    simp [unmatched]
  | succ d ih =>
    intro i y h hy
    have hi : i < l.length := by omega
    have hc := contains_Unmatched_ev r l[i] t hr (ev40_time hl hi)
    by_cases hb : (r.any fun b => meetB l[i] b t) = true
    · refine ((ih (i + 1) y (by omega) (by omega)).and hc).step fun k ⟨hk, h1⟩ => ?_
      rw [impl_Unmatched.l0, if_pos (ilt hi), if_pos (i0 i), if_pos (ilt hi), rdFrame_at hi]
      change ((slices_ContainsFunc_impl_Frame_impl_Frame_impl_Unmatched_1.f k r () [l[i]] [t]).bind _) = _
      rw [h1]
      simp only [Option.bind_some, hb, if_true]
      rw [wrap_nat hi (by omega), hk, drop_at hi, unmatched_cons, if_pos hb]
    · refine ((ih (i + 1) (y ++ [(i : Int)]) (by omega) (by simp; omega)).and hc).step fun k ⟨hk, h1⟩ => ?_
      rw [impl_Unmatched.l0, if_pos (ilt hi), if_pos (i0 i), if_pos (ilt hi), rdFrame_at hi]
      change ((slices_ContainsFunc_impl_Frame_impl_Frame_impl_Unmatched_1.f k r () [l[i]] [t]).bind _) = _
      rw [h1]
      simp only [Option.bind_some]
      rw [if_neg hb, if_pos (by omega), wrap_nat hi (by omega), hk, drop_at hi, unmatched_cons, if_neg hb, List.append_assoc, List.singleton_append]
def unmatchedF (l r : List S56) (t : Int) : List Int := if (joinWithin l r t).2 = true then unmatched r t 0 l else []
theorem joinWithin_ok {l r : List S56} {t : Int} (h : (joinWithin l r t).2 = true) : Ev40 l ∧ Ev40 r := by
  unfold joinWithin at h
  by_cases h1 : eventsB l = true ∧ eventsB r = true ∧ (0 ≤ t ∧ t ≤ 1000000)
  · exact ⟨ev40_of h1.1, ev40_of h1.2.1⟩
  · rw [if_neg h1] at h
    cases h
theorem unmatchedF_le (l r : List S56) (t : Int) : (unmatchedF l r t).length ≤ 40 := by
  unfold unmatchedF
  split
  · rename_i h
    have := (joinWithin_ok h).1.1
    have := unmatched_le r t l 0
    omega
  · simp
theorem spec_Unmatched_ev (l r : List S56) (t : Int) (hl : l.length ≤ 1048576) (hr : r.length ≤ 1048576) : Evt fun k => spec_Unmatched.f k l r t = some (unmatchedF l r t) := by
  unfold unmatchedF
  by_cases h : (joinWithin l r t).2 = true
  · refine ((spec_JoinWithin_ev l r t hl hr).and (spec_Unmatched_l0 l r t (joinWithin_ok h).1 (joinWithin_ok h).2 l.length 0 [] (by omega) (by simp))).map fun k ⟨h1, h2⟩ => ?_
    have h2' : spec_Unmatched.l0 k l r t [] 0 = some (unmatched r t 0 l) := h2
    simp only [spec_Unmatched.f, h1, Option.bind_some, if_pos h, h2']
  · refine (spec_JoinWithin_ev l r t hl hr).map fun k h1 => ?_
    simp only [spec_Unmatched.f, h1, Option.bind_some, if_neg h]
theorem impl_Unmatched_ev (l r : List S56) (t : Int) (hl : l.length ≤ 1048576) (hr : r.length ≤ 1048576) : Evt fun k => impl_Unmatched.f k l r t = some (unmatchedF l r t) := by
  unfold unmatchedF
  by_cases h : (joinWithin l r t).2 = true
  · refine ((impl_JoinWithin_ev l r t hl hr).and (impl_Unmatched_l0 l r t (joinWithin_ok h).1 (joinWithin_ok h).2 l.length 0 [] (by omega) (by simp))).map fun k ⟨h1, h2⟩ => ?_
    have h2' : impl_Unmatched.l0 k r [] l (l.length : Int) 0 t = some (unmatched r t 0 l) := h2
    simp only [impl_Unmatched.f, h1, Option.bind_some, if_pos h, h2']
  · refine (impl_JoinWithin_ev l r t hl hr).map fun k h1 => ?_
    simp only [impl_Unmatched.f, h1, Option.bind_some, if_neg h]

theorem FnExactUnmatched (x0 x1 : List S53) (t : Int) (w0 : AllOf (fun x : S53 => I64 x.f0 ∧ I64 x.f1 ∧ I64 x.f2 ∧ I64 x.f3) x0) (w1 : AllOf (fun x : S53 => I64 x.f0 ∧ I64 x.f1 ∧ I64 x.f2 ∧ I64 x.f3) x1) (_ : I64 t) :
    ∃ k, laws_FnExactUnmatched.f k x0 x1 t = some true := by
  have s0 := szFrameS_eq x0 1048576 (by omega) w0.1
  by_cases hn0 : 1048576 - (x0.length : Int) < 0
  · exact ⟨0, by simp only [laws_FnExactUnmatched.f, s0, Option.bind_some, if_pos hn0]; rfl⟩
  have s1 := szFrameS_eq x1 (1048576 - (x0.length : Int)) (by omega) w1.1
  by_cases hn1 : 1048576 - (x0.length : Int) - (x1.length : Int) < 0
  · exact ⟨0, by simp only [laws_FnExactUnmatched.f, s0, s1, Option.bind_some, if_neg hn0, if_pos hn1]; rfl⟩
  have h0 : x0.length ≤ 1048576 := by omega
  have h1 : x1.length ≤ 1048576 := by omega
  have h0' : (x0.map cvFrame).length ≤ 1048576 := by simpa using h0
  have h1' : (x1.map cvFrame).length ≤ 1048576 := by simpa using h1
  have t0 := toFrameS_ev x0 h0
  have t1 := toFrameS_ev x1 h1
  have sp := spec_Unmatched_ev (x0.map cvFrame) (x1.map cvFrame) t h0' h1'
  have im := impl_Unmatched_ev (x0.map cvFrame) (x1.map cvFrame) t h0' h1'
  have hle := unmatchedF_le (x0.map cvFrame) (x1.map cvFrame) t
  generalize unmatchedF (x0.map cvFrame) (x1.map cvFrame) t = g at sp im hle
  have eg := eqIntS_ev g (by omega)
  have e0 := eqFrameS_ev (x0.map cvFrame) (by omega)
  have e1 := eqFrameS_ev (x1.map cvFrame) (by omega)
  obtain ⟨y0, _, m0⟩ := markxFrameS_ev 1 (x0.map cvFrame) (by omega) (by omega)
  obtain ⟨y1, _, m1⟩ := markxFrameS_ev (1 + 4 * ((x0.map cvFrame).length : Int)) (x1.map cvFrame) (by omega) (by omega)
  obtain ⟨yg, mg, hg⟩ := markIntS_ev 1 g (by omega) (by omega)
  have hng : ¬ (1 + (g.length : Int) < 0) := by omega
  have hn2 : ¬ (1 + 4 * ((x0.map cvFrame).length : Int) + 4 * ((x1.map cvFrame).length : Int) < 0) := by omega
  have j0 : Evt fun k => laws_FnExactUnmatched.j0 k x0 x1 t g g false = some true := (mg.and (hg.and (t0.and (t1.and (im.and eg))))).step fun k ⟨a1, a2, a3, a4, a5, a6⟩ => by
    simp only [laws_FnExactUnmatched.j0, a1, a2, a3, a4, a5, a6, Option.bind_some, if_neg hng, if_true, Bool.false_eq_true, if_false]
  obtain ⟨k, a1, a2, a3, a4, a5, a6, a7, a8, a9, a10⟩ := (t0.and (t1.and (sp.and (im.and (eg.and (e0.and (e1.and (m0.and (m1.and j0))))))))).ex
  refine ⟨k, ?_⟩
  simp only [laws_FnExactUnmatched.f, s0, s1, if_neg hn0, if_neg hn1, Option.bind_some, a1, a2, a3, a4, a5, a6, a7, a8, a9, a10, if_true, if_neg hn2, Bool.not_true]
end Go.Proofs.Ytkdndllgocdbdaa.Pure
