/- FnExactRaiseJoin: the program's RaiseJoin makes of a join what the reference makes, in new memory, and leaves it alone: for all joins and marks. -/
import Derived.Test.YtkdndllgocdbdaaPFnExactRaiseJoinx
import Derived.Test.YtkdndllgocdbdaaKit
namespace Go.Proofs.Ytkdndllgocdbdaa.Pure
open Go.RowKit Go.Proofs.Ytkdndllgocdbdaa.PFnExactRaiseJoin Go.Proofs.YtkdndllgocdbdaaW.PrintWords Go.Proofs.YtkdndllgocdbdaaW.PrintLast Go.Proofs.YtkdndllgocdbdaaW.PrintMore Go.Proofs.Ytkdndllgocdbdaa.Kit
set_option linter.unusedVariables false
set_option linter.unusedSimpArgs false

theorem rdFrame_at {xs : List S56} {i : Nat} (h : i < xs.length) : rd_T56 xs (i : Int) = xs[i] := by
  simp [rd_T56, List.getD_eq_getElem?_getD, List.getElem?_eq_getElem h]
theorem rdFrame_set {xs : List S56} {i : Nat} (h : i < xs.length) (v : S56) : rd_T56 (xs.set i v) (i : Int) = v := by
  rw [rdFrame_at (by simpa using h)]
  simp

theorem rdLFrame_at {xs : List S53} {i : Nat} (h : i < xs.length) : rd_T53 xs (i : Int) = xs[i] := by
  simp [rd_T53, List.getD_eq_getElem?_getD, List.getElem?_eq_getElem h]
def cvFrame (x : S53) : S56 := ⟨x.f0, x.f1, x.f2, x.f3⟩
theorem toFrameS_l0 (l : List S53) (hl : l.length ≤ 9223372036854775807) : ∀ (d i : Nat) (x : List S56), i + d = l.length → x.length = (l.map cvFrame).length → x.take i = (l.map cvFrame).take i →
    Evt fun k => laws_toFrameS.l0 k l x (i : Int) = some (l.map cvFrame) := by
  intro d
  induction d with
  | zero =>
    intro i x h hx ht
    refine Evt.step0 fun k => ?_
    rw [laws_toFrameS.l0, if_neg (by omega), fill_end hx (by simp; omega) ht]
  | succ d ih =>
    intro i x h hx ht
    have hi : i < l.length := by omega
    obtain ⟨h1, h2⟩ := fill_step (v := cvFrame l[i]) hx (by simpa using hi) ht (by simp)
    have hxl : (i : Int) < (x.length : Int) := by rw [hx, List.length_map]; omega
    refine (ih (i + 1) (x.set i (cvFrame l[i])) (by omega) h1 h2).step fun k hk => ?_
    rw [laws_toFrameS.l0, if_pos (ilt hi), if_pos (i0 i), rdLFrame_at hi]
    simp only [laws_toFrame.f, Option.bind_some, Int.toNat_natCast]
    rw [if_pos hxl, wrap_nat hi hl]
    exact hk
theorem toFrameS_ev (l : List S53) (hl : l.length ≤ 1048576) : Evt fun k => laws_toFrameS.f k l = some (l.map cvFrame) := by
  refine (toFrameS_l0 l (by omega) l.length 0 (List.replicate l.length z56) (by omega) (by simp) (by simp)).map fun k hk => ?_
  rw [laws_toFrameS.f, if_pos (by omega), if_pos (by omega)]
  exact hk

theorem eqFrame_refl (x : S56) : laws_eqFrame.f x.f0 x.f1 x.f2 x.f3 x.f0 x.f1 x.f2 x.f3 = some true := by simp [laws_eqFrame.f]
theorem eqFrameS_l0 (l : List S56) (hl : l.length ≤ 9223372036854775807) : ∀ (d i : Nat), i + d = l.length → Evt fun k => laws_eqFrameS.l0 k l l (i : Int) = some true := by
  intro d
  induction d with
  | zero =>
    intro i h
    refine Evt.step0 fun k => ?_
    rw [laws_eqFrameS.l0, if_neg (by omega)]
  | succ d ih =>
    intro i h
    have hi : i < l.length := by omega
    refine (ih (i + 1) (by omega)).step fun k hk => ?_
    rw [laws_eqFrameS.l0, if_pos (ilt hi), if_pos (i0 i), if_pos (ilt hi), eqFrame_refl]
    simp only [Option.bind_some, if_true]
    rw [wrap_nat hi hl]
    exact hk
theorem eqFrameS_ev (l : List S56) (hl : l.length ≤ 9223372036854775807) : Evt fun k => laws_eqFrameS.f k l l = some true :=
  (eqFrameS_l0 l hl l.length 0 (by omega)).map fun k hk => by rw [laws_eqFrameS.f, if_pos rfl]; exact hk

theorem l01In_eq (a b c : Int) : spec_l01In.f a b c = some (decide (b ≤ a ∧ a ≤ c)) := by
  unfold spec_l01In.f
  by_cases h : b ≤ a <;> simp [h]
theorem within_eq (a b c : Int) : impl_within.f a b c = some (decide (b ≤ a ∧ a ≤ c)) := by
  unfold impl_within.f
  by_cases h : b ≤ a <;> simp [h]

/-- A right frame. -/
def frameB (kind key time value : Int) : Bool :=
  if kind = 1 then decide ((0 ≤ key ∧ key ≤ 65535) ∧ (0 ≤ time ∧ time ≤ 1000000) ∧ (-1000000 ≤ value ∧ value ≤ 1000000))
  else if kind = 2 then decide (key = 0 ∧ (0 ≤ time ∧ time ≤ 1000000) ∧ value = 0)
  else decide (kind = 3 ∧ key = 0 ∧ time = 0 ∧ value = 0)
theorem impl_isTime_eq (t : Int) : impl_isTime.f t = some (decide (0 ≤ t ∧ t ≤ 1000000)) := by
  unfold impl_isTime.f
  simp only [within_eq, Option.bind_some]
theorem impl_isKey_eq (t : Int) : impl_isKey.f t = some (decide (0 ≤ t ∧ t ≤ 65535)) := by
  unfold impl_isKey.f
  simp only [within_eq, Option.bind_some]
theorem impl_isValue_eq (t : Int) : impl_isValue.f t = some (decide (-1000000 ≤ t ∧ t ≤ 1000000)) := by
  unfold impl_isValue.f
  simp only [within_eq, Option.bind_some]
theorem spec_FrameOk_eq (a b c d : Int) : spec_FrameOk.f a b c d = some (frameB a b c d) := by
  unfold spec_FrameOk.f frameB
  simp only [l01In_eq, Option.bind_some]
  by_cases h1 : a = 1
  · by_cases hb : 0 ≤ b ∧ b ≤ 65535 <;> by_cases hc : 0 ≤ c ∧ c ≤ 1000000 <;> simp [h1, hb, hc]
  · by_cases h2 : a = 2
    · by_cases hb : b = 0 <;> by_cases hc : 0 ≤ c ∧ c ≤ 1000000 <;> by_cases hd : d = 0 <;> simp [h2, hb, hc, hd]
    · by_cases h3 : a = 3
      · by_cases hb : b = 0 <;> by_cases hc : c = 0 <;> by_cases hd : d = 0 <;> simp [h3, hb, hc, hd]
      · simp [h1, h2, h3]
theorem impl_FrameOk_eq (a b c d : Int) : impl_FrameOk.f a b c d = some (frameB a b c d) := by
  unfold impl_FrameOk.f frameB
  simp only [impl_isKey_eq, impl_isTime_eq, impl_isValue_eq, Option.bind_some]
  by_cases h1 : a = 1
  · by_cases hb : 0 ≤ b ∧ b ≤ 65535 <;> by_cases hc : 0 ≤ c ∧ c ≤ 1000000 <;> simp [h1, hb, hc]
  · by_cases h2 : a = 2
    · by_cases hb : b = 0 <;> by_cases hc : 0 ≤ c ∧ c ≤ 1000000 <;> by_cases hd : d = 0 <;> simp [h2, hb, hc, hd]
    · by_cases h3 : a = 3
      · by_cases hb : b = 0 <;> by_cases hc : c = 0 <;> by_cases hd : d = 0 <;> simp [h3, hb, hc, hd]
      · simp [h1, h2, h3]
/-- A right event. -/
def eventB (s : S56) : Bool := decide (s.f0 = 1) && frameB s.f0 s.f1 s.f2 s.f3
theorem impl_isEvent_eq (s : S56) : impl_isEvent.f s.f0 s.f1 s.f2 s.f3 = some (eventB s) := by
  unfold impl_isEvent.f eventB
  simp only [impl_FrameOk_eq, Option.bind_some]
  by_cases h : s.f0 = 1 <;> simp [h]

theorem spec_l12Event_eq (s : S56) : spec_l12Event.f s.f0 s.f1 s.f2 s.f3 = some (eventB s) := by
  unfold spec_l12Event.f eventB
  simp only [spec_FrameOk_eq, Option.bind_some]
  by_cases h : frameB s.f0 s.f1 s.f2 s.f3 = true
  · simp only [h, if_true]; by_cases h1 : s.f0 = 1 <;> simp [h1]
  · simp [h]
/-- Right events, and not too many. -/
def eventsB (l : List S56) : Bool := decide (l.length ≤ 40) && l.all eventB
theorem spec_l12Events_l0 (l : List S56) (hl : l.length ≤ 1048576) : ∀ (d i : Nat), i + d = l.length → Evt fun k => spec_l12Events.l0 k l (i : Int) = some ((l.drop i).all eventB) := by
  intro d
  induction d with
  | zero =>
    intro i h
    refine Evt.step0 fun k => ?_
    rw [spec_l12Events.l0, if_neg (by omega), List.drop_of_length_le (by omega)]
    rfl
  | succ d ih =>
    intro i h
    have hi : i < l.length := by omega
    refine (ih (i + 1) (by omega)).step fun k hk => ?_
    rw [spec_l12Events.l0, if_pos (ilt hi), if_pos (i0 i), rdFrame_at hi, spec_l12Event_eq, drop_at hi, List.all_cons]
    simp only [Option.bind_some]
    rw [wrap_nat hi (by omega), hk]
    by_cases h1 : eventB l[i] = true <;> simp [h1]
theorem spec_l12Events_ev (l : List S56) (hl : l.length ≤ 1048576) : Evt fun k => spec_l12Events.f k l = some (eventsB l) := by
  refine (spec_l12Events_l0 l hl l.length 0 (by omega)).map fun k hk => ?_
  unfold spec_l12Events.f eventsB
  by_cases h : l.length ≤ 40
  · rw [if_neg (by omega)]
    simpa [h] using hk
  · rw [if_pos (by omega)]
    simp [h]
theorem impl_areEvents_1_eq (s : S56) : impl_areEvents_1.f s.f0 s.f1 s.f2 s.f3 = some (!eventB s) := by
  unfold impl_areEvents_1.f
  rw [impl_isEvent_eq]
  rfl
theorem index_areEvents_l0 (l : List S56) (hl : l.length ≤ 1048576) : ∀ (d i : Nat), i + d = l.length →
    ∃ r : Int, (Evt fun k => slices_IndexFunc_impl_Frame_impl_Frame_impl_areEvents_1.l0 k l (l.length : Int) (i : Int) = some r) ∧ decide (r ≥ 0) = !(l.drop i).all eventB := by
  intro d
  induction d with
  | zero =>
    intro i h
    refine ⟨-1, Evt.step0 fun k => ?_, ?_⟩
    · rw [slices_IndexFunc_impl_Frame_impl_Frame_impl_areEvents_1.l0, if_neg (by omega)]
    · rw [List.drop_of_length_le (by omega)]; rfl
  | succ d ih =>
    intro i h
    have hi : i < l.length := by omega
    by_cases h1 : eventB l[i] = true
    · obtain ⟨r, hr, hb⟩ := ih (i + 1) (by omega)
      refine ⟨r, hr.step fun k hk => ?_, ?_⟩
      · rw [slices_IndexFunc_impl_Frame_impl_Frame_impl_areEvents_1.l0, if_pos (ilt hi), if_pos (i0 i), if_pos (ilt hi), rdFrame_at hi, impl_areEvents_1_eq]
        simp only [Option.bind_some, h1]
        rw [if_neg (by simp), wrap_nat hi (by omega), hk]
      · rw [drop_at hi, List.all_cons, h1, hb]; simp
    · refine ⟨(i : Int), Evt.step0 fun k => ?_, ?_⟩
      · rw [slices_IndexFunc_impl_Frame_impl_Frame_impl_areEvents_1.l0, if_pos (ilt hi), if_pos (i0 i), if_pos (ilt hi), rdFrame_at hi, impl_areEvents_1_eq]
        simp [h1]
      · rw [drop_at hi, List.all_cons]; simp [h1]
theorem impl_areEvents_ev (l : List S56) (hl : l.length ≤ 1048576) : Evt fun k => impl_areEvents.f k l = some (eventsB l) := by
  obtain ⟨r, hr, hb⟩ := index_areEvents_l0 l hl l.length 0 (by omega)
  refine hr.map fun k hk => ?_
  have hk' : slices_IndexFunc_impl_Frame_impl_Frame_impl_areEvents_1.f k l () = some r := hk
  unfold impl_areEvents.f eventsB slices_ContainsFunc_impl_Frame_impl_Frame_impl_areEvents_1.f
  rw [hk']
  by_cases h : l.length ≤ 40
  · rw [if_pos (by omega)]
    simp only [Option.bind_some, hb]
    simp [h]
  · rw [if_neg (by omega)]
    simp [h]

theorem szFrameS_eq (l : List S53) (n : Int) (hn : 0 ≤ n ∧ n ≤ 1048576) (hl : l.length ≤ 9223372036854775807) : laws_szFrameS.f l n = some (if n - (l.length : Int) < 0 then -1 else n - (l.length : Int)) := by
  have hw : wrap64 (n - (l.length : Int)) = n - (l.length : Int) := wrap_in (by omega) (by omega)
  unfold laws_szFrameS.f
  rw [hw]
  by_cases h : n - (l.length : Int) < 0 <;> simp [h]

theorem szJoin_small (a b : List S53) (m : Int) (ha : a.length ≤ 9223372036854775807) (hb : b.length ≤ 9223372036854775807) (r : Int) (h : laws_szJoin.f a b m 1048576 = some r) : r < 0 ∨ (a.length ≤ 1048576 ∧ b.length ≤ 1048576) := by
  unfold laws_szJoin.f at h
  rw [szFrameS_eq a 1048576 (by omega) ha] at h
  simp only [Option.bind_some] at h
  by_cases h1 : 1048576 - (a.length : Int) < 0
  · rw [if_pos h1, if_pos (by omega)] at h
    left
    have := Option.some.inj h
    omega
  · rw [if_neg h1, if_neg h1, szFrameS_eq b _ (by omega) hb] at h
    simp only [Option.bind_some] at h
    by_cases h2 : 1048576 - (a.length : Int) - (b.length : Int) < 0
    · rw [if_pos h2, if_pos (by omega)] at h
      left
      have := Option.some.inj h
      omega
    · right
      omega
theorem szJoin_some (a b : List S53) (m : Int) (ha : a.length ≤ 9223372036854775807) (hb : b.length ≤ 9223372036854775807) : ∃ r, laws_szJoin.f a b m 1048576 = some r := by
  unfold laws_szJoin.f
  rw [szFrameS_eq a 1048576 (by omega) ha]
  simp only [Option.bind_some]
  by_cases h1 : 1048576 - (a.length : Int) < 0
  · rw [if_pos h1, if_pos (by omega)]
    exact ⟨_, rfl⟩
  · rw [if_neg h1, if_neg h1, szFrameS_eq b _ (by omega) hb]
    simp only [Option.bind_some]
    split <;> exact ⟨_, rfl⟩
theorem toJoin_ev (a b : List S53) (m : Int) (ha : a.length ≤ 1048576) (hb : b.length ≤ 1048576) : Evt fun k => laws_toJoin.f k a b m = some (a.map cvFrame, b.map cvFrame, m) :=
  ((toFrameS_ev a ha).and (toFrameS_ev b hb)).map fun k ⟨h1, h2⟩ => by simp only [laws_toJoin.f, h1, h2, Option.bind_some]
theorem eqJoin_ev (a b : List S56) (m : Int) (ha : a.length ≤ 1048576) (hb : b.length ≤ 1048576) : Evt fun k => laws_eqJoin.f k a b m a b m = some true :=
  ((eqFrameS_ev a (by omega)).and (eqFrameS_ev b (by omega))).map fun k ⟨h1, h2⟩ => by simp [laws_eqJoin.f, h1, h2]

def joinB (a b : List S56) (m : Int) : Bool := eventsB a && (eventsB b && decide (-1 ≤ m ∧ m ≤ 1000000))
theorem spec_JoinOk_ev (a b : List S56) (m : Int) (ha : a.length ≤ 1048576) (hb : b.length ≤ 1048576) : Evt fun k => spec_JoinOk.f k a b m = some (joinB a b m) :=
  ((spec_l12Events_ev a ha).and (spec_l12Events_ev b hb)).map fun k ⟨h1, h2⟩ => by
    unfold spec_JoinOk.f joinB spec_l04Mark.f
    simp only [h1, h2, l01In_eq, Option.bind_some]
    by_cases h3 : eventsB a = true <;> by_cases h4 : eventsB b = true <;> simp [h3, h4]
theorem impl_JoinOk_ev (a b : List S56) (m : Int) (ha : a.length ≤ 1048576) (hb : b.length ≤ 1048576) : Evt fun k => impl_JoinOk.f k a b m = some (joinB a b m) :=
  ((impl_areEvents_ev a ha).and (impl_areEvents_ev b hb)).map fun k ⟨h1, h2⟩ => by
    unfold impl_JoinOk.f joinB impl_isMark.f
    simp only [h1, h2, within_eq, Option.bind_some]
    by_cases h3 : eventsB a = true <;> by_cases h4 : eventsB b = true <;> simp [h3, h4]

def mkFrame (b : Int) : S56 := ⟨b, b + 1, b + 1 + 1, b + 1 + 1 + 1⟩
theorem markFrameS_l0 (a : Int) (y : List S56) (ha : 0 ≤ a) (hl : a + 4 * y.length ≤ 9223372036854775807) (hy : ∀ (i : Nat) (h : i < y.length), y[i] = mkFrame (a + 4 * (i : Int))) :
    ∀ (d i : Nat) (x : List S56) (b : Int), i + d = y.length → b = a + 4 * (i : Int) → x.length = y.length → x.take i = y.take i →
    Evt fun k => laws_markFrameS.l0 k x b (i : Int) = some (a + 4 * y.length, y) := by
  intro d
  induction d with
  | zero =>
    intro i x b h hb hx ht
    refine Evt.step0 fun k => ?_
    rw [laws_markFrameS.l0, if_neg (by omega), fill_end hx (by omega) ht]
    simp
    omega
  | succ d ih =>
    intro i x b h hb hx ht
    have hi : i < y.length := by omega
    have hxi : i < x.length := by omega
    obtain ⟨h1, h2⟩ := fill_step (v := mkFrame b) hx hi ht (by rw [hy i hi, hb])
    have e1 : wrap64 (b + 1) = b + 1 := wrap_in (by omega) (by omega)
    have e2 : wrap64 (b + 1 + 1) = b + 1 + 1 := wrap_in (by omega) (by omega)
    have e3 : wrap64 (b + 1 + 1 + 1) = b + 1 + 1 + 1 := wrap_in (by omega) (by omega)
    have e4 : wrap64 (b + 1 + 1 + 1 + 1) = b + 1 + 1 + 1 + 1 := wrap_in (by omega) (by omega)
    refine (ih (i + 1) (x.set i (mkFrame b)) (b + 1 + 1 + 1 + 1) (by omega) (by omega) h1 h2).step fun k hk => ?_
    rw [laws_markFrameS.l0, if_pos (ilt hxi), if_pos (i0 i), wrap_nat hxi (by omega)]
    simp only [Option.bind_some, Int.toNat_natCast, List.set_set, rdFrame_set hxi, e1, e2, e3, e4]
    exact hk
theorem heldFrameS_l0 (a : Int) (y : List S56) (ha : 0 ≤ a) (hl : a + 4 * y.length ≤ 9223372036854775807) (hy : ∀ (i : Nat) (h : i < y.length), y[i] = mkFrame (a + 4 * (i : Int))) :
    ∀ (d i : Nat) (b : Int), i + d = y.length → b = a + 4 * (i : Int) → Evt fun k => laws_heldFrameS.l0 k y b (i : Int) = some (a + 4 * y.length) := by
  intro d
  induction d with
  | zero =>
    intro i b h hb
    refine Evt.step0 fun k => ?_
    rw [laws_heldFrameS.l0, if_neg (by omega)]
    simp
    omega
  | succ d ih =>
    intro i b h hb
    have hi : i < y.length := by omega
    have e1 : wrap64 (b + 1) = b + 1 := wrap_in (by omega) (by omega)
    have e2 : wrap64 (b + 1 + 1) = b + 1 + 1 := wrap_in (by omega) (by omega)
    have e3 : wrap64 (b + 1 + 1 + 1) = b + 1 + 1 + 1 := wrap_in (by omega) (by omega)
    have e4 : wrap64 (b + 1 + 1 + 1 + 1) = b + 1 + 1 + 1 + 1 := wrap_in (by omega) (by omega)
    have hyi : y[i] = mkFrame b := by rw [hy i hi, hb]
    refine (ih (i + 1) (b + 1 + 1 + 1 + 1) (by omega) (by omega)).step fun k hk => ?_
    rw [laws_heldFrameS.l0, if_pos (ilt hi), if_pos (i0 i), wrap_nat hi (by omega), rdFrame_at hi, hyi]
    simp only [mkFrame, e1, e2, e3, e4, if_true]
    exact hk
theorem markFrameS_ev (a : Int) (l : List S56) (ha : 0 ≤ a) (hl : a + 4 * l.length ≤ 9223372036854775807) :
    ∃ y : List S56, (Evt fun k => laws_markFrameS.f k l a = some (a + 4 * l.length, y)) ∧ (Evt fun k => laws_heldFrameS.f k y a = some (a + 4 * l.length)) := by
  have hy : ∀ (i : Nat) (h : i < ((List.range l.length).map fun (j : Nat) => mkFrame (a + 4 * (j : Int))).length), ((List.range l.length).map fun (j : Nat) => mkFrame (a + 4 * (j : Int)))[i] = mkFrame (a + 4 * (i : Int)) := fun i h => by simp
  have hn : ((List.range l.length).map fun (j : Nat) => mkFrame (a + 4 * (j : Int))).length = l.length := by simp
  refine ⟨(List.range l.length).map fun (j : Nat) => mkFrame (a + 4 * (j : Int)), ?_, ?_⟩
  · have := markFrameS_l0 a _ ha (by rw [hn]; exact hl) hy l.length 0 l a (by rw [hn]; omega) (by omega) hn.symm (by simp)
    simpa [laws_markFrameS.f] using this
  · have := heldFrameS_l0 a _ ha (by rw [hn]; exact hl) hy l.length 0 a (by rw [hn]; omega) (by omega)
    simpa [laws_heldFrameS.f] using this
theorem rj_index_l0 (l : List S56) (c1 c2 : List Int) (p : S56 → Bool) (hp : ∀ s ∈ l, impl_RaiseJoin_1.f s.f0 s.f1 s.f2 s.f3 c1 c2 = some (p s)) (hl : l.length ≤ 1048576) : ∀ (d i : Nat), i + d = l.length → (∀ s ∈ l.take i, p s = false) →
    ∃ r : Int, (Evt fun k => slices_IndexFunc_impl_Frame_impl_Frame_impl_RaiseJoin_1.l0 k l c1 c2 (l.length : Int) (i : Int) = some r) ∧ ((r = -1 ∧ ∀ s ∈ l, p s = false) ∨ ∃ m : Nat, ∃ hm : m < l.length, r = (m : Int) ∧ (∀ s ∈ l.take m, p s = false) ∧ p l[m] = true) := by
  intro d
  induction d with
  | zero =>
    intro i h hq
    rw [List.take_of_length_le (by omega)] at hq
    refine ⟨-1, Evt.step0 fun k => ?_, .inl ⟨rfl, hq⟩⟩
    rw [slices_IndexFunc_impl_Frame_impl_Frame_impl_RaiseJoin_1.l0, if_neg (by omega)]
  | succ d ih =>
    intro i h hq
    have hi : i < l.length := by omega
    have hc := hp l[i] (List.getElem_mem hi)
    by_cases h1 : p l[i] = true
    · refine ⟨(i : Int), Evt.step0 fun k => ?_, .inr ⟨i, hi, rfl, hq, h1⟩⟩
      rw [slices_IndexFunc_impl_Frame_impl_Frame_impl_RaiseJoin_1.l0, if_pos (ilt hi), if_pos (i0 i), if_pos (ilt hi), rdFrame_at hi, hc]
      simp [h1]
    · obtain ⟨r, hr, hb⟩ := ih (i + 1) (by omega) (fun s hs => by
        rw [take_at hi, List.mem_append, List.mem_singleton] at hs
        rcases hs with hs | rfl
        · exact hq s hs
        · exact Bool.eq_false_iff.mpr h1)
      refine ⟨r, hr.step fun k hk => ?_, hb⟩
      rw [slices_IndexFunc_impl_Frame_impl_Frame_impl_RaiseJoin_1.l0, if_pos (ilt hi), if_pos (i0 i), if_pos (ilt hi), rdFrame_at hi, hc]
      simp only [Option.bind_some, Bool.eq_false_iff.mpr h1]
      rw [if_neg (by simp), wrap_nat hi (by omega), hk]
theorem rj_delete_l0 (l : List S56) (c1 c2 : List Int) (p : S56 → Bool) (hp : ∀ s ∈ l, impl_RaiseJoin_1.f s.f0 s.f1 s.f2 s.f3 c1 c2 = some (p s)) (hl : l.length ≤ 1048576) : ∀ (d j i : Nat) (x : List S56), j + d = l.length → x.length = l.length → i ≤ j → x.take i = (l.take j).filter (fun s => !p s) → x.drop j = l.drop j →
    Evt fun k => slices_DeleteFunc_impl_Frame_impl_Frame_impl_RaiseJoin_1.l0 k x c1 c2 (i : Int) (j : Int) = some (l.filter fun s => !p s) := by
  intro d
  induction d with
  | zero =>
    intro j i x h hx hij ht hd
    refine Evt.step0 fun k => ?_
    have hlen : (x.take i ++ List.replicate (x.length - i) z56).length = x.length := by rw [List.length_append, List.length_take, List.length_replicate]; omega
    rw [slices_DeleteFunc_impl_Frame_impl_Frame_impl_RaiseJoin_1.l0, if_neg (by omega), if_pos (i0 i), if_pos (by omega)]
    simp only [Int.toNat_natCast, Option.bind_some]
    rw [hlen, if_pos (by omega), List.take_append_of_le_length (by rw [List.length_take]; omega), List.take_take, Nat.min_self, ht, List.take_of_length_le (by omega)]
  | succ d ih =>
    intro j i x h hx hij ht hd
    have hj : j < l.length := by omega
    have hjx : j < x.length := by omega
    have he : x[j] = l[j] := by
      have h1 := drop_at hjx
      have h2 := drop_at hj
      rw [hd, h2] at h1
      injection h1 with h1 _
      exact h1.symm
    have hd' : x.drop (j + 1) = l.drop (j + 1) := by
      rw [← List.drop_drop, ← List.drop_drop, hd]
    have hc := hp l[j] (List.getElem_mem hj)
    by_cases h1 : p l[j] = true
    · refine (ih (j + 1) i x (by omega) hx (by omega) (by rw [take_at hj, List.filter_append, ht]; simp [h1]) hd').step fun k hk => ?_
      rw [slices_DeleteFunc_impl_Frame_impl_Frame_impl_RaiseJoin_1.l0, if_pos (ilt hjx), if_pos (i0 j), rdFrame_at hjx, he, hc]
      simp only [Option.bind_some, h1, if_true]
      rw [wrap_nat hj (by omega), hk]
    · have h1' := Bool.eq_false_iff.mpr h1
      have hi : i < x.length := by omega
      refine (ih (j + 1) (i + 1) (x.set i l[j]) (by omega) (by simpa using hx) (by omega) (by
        rw [take_at (by simpa using hi), List.take_set_of_le (Nat.le_refl _), ht, take_at hj, List.filter_append]
        simp [h1']) (by rw [List.drop_set_of_lt (by omega), hd'])).step fun k hk => ?_
      rw [slices_DeleteFunc_impl_Frame_impl_Frame_impl_RaiseJoin_1.l0, if_pos (ilt hjx), if_pos (i0 j), rdFrame_at hjx, he, hc]
      simp only [Option.bind_some, h1', Bool.false_eq_true, if_false]
      rw [if_pos (i0 i), if_pos (by omega), Int.toNat_natCast, wrap_nat hj (by omega), wrap_nat hi (by omega)]
      exact hk
theorem rj_delete_ev (l : List S56) (c1 c2 : List Int) (p : S56 → Bool) (hp : ∀ s ∈ l, impl_RaiseJoin_1.f s.f0 s.f1 s.f2 s.f3 c1 c2 = some (p s)) (hl : l.length ≤ 1048576) : Evt fun k => slices_DeleteFunc_impl_Frame_impl_Frame_impl_RaiseJoin_1.f k l () c1 c2 = some (l.filter fun s => !p s) := by
  obtain ⟨r, hr, hc⟩ := rj_index_l0 l c1 c2 p hp hl l.length 0 (by omega) (by simp)
  rcases hc with ⟨rfl, hall⟩ | ⟨m, hm, rfl, hpre, hpm⟩
  · refine hr.map fun k hk => ?_
    have hk' : slices_IndexFunc_impl_Frame_impl_Frame_impl_RaiseJoin_1.f k l () c1 c2 = some (-1) := hk
    unfold slices_DeleteFunc_impl_Frame_impl_Frame_impl_RaiseJoin_1.f
    rw [hk']
    simp only [Option.bind_some, if_true]
    rw [List.filter_eq_self.mpr (fun s hs => by simp [hall s hs])]
  · have h0 := rj_delete_l0 l c1 c2 p hp hl (l.length - (m + 1)) (m + 1) m l (by omega) rfl (by omega) (by
      rw [take_at hm, List.filter_append, List.filter_eq_self.mpr (fun s hs => by simp [hpre s hs])]
      simp [hpm]) rfl
    refine (hr.and h0).map fun k ⟨hk, h1⟩ => ?_
    have hk' : slices_IndexFunc_impl_Frame_impl_Frame_impl_RaiseJoin_1.f k l () c1 c2 = some (m : Int) := hk
    unfold slices_DeleteFunc_impl_Frame_impl_Frame_impl_RaiseJoin_1.f
    rw [hk']
    simp only [Option.bind_some]
    rw [if_neg (by omega), wrap_nat hm (by omega), h1]
theorem spec_l12Frames_l0 (l : List S56) (hl : l.length ≤ 1048576) : ∀ (d i : Nat) (y : List S56), i + d = l.length → y.length ≤ i → Evt fun k => spec_l12Frames.l0 k l y (i : Int) = some (y ++ l.drop i) := by
  intro d
  induction d with
  | zero =>
    intro i y h hy
    refine Evt.step0 fun k => ?_
    rw [spec_l12Frames.l0, if_neg (by omega), List.drop_of_length_le (by omega), List.append_nil]
  | succ d ih =>
    intro i y h hy
    have hi : i < l.length := by omega
    refine (ih (i + 1) (y ++ [l[i]]) (by omega) (by simp; omega)).step fun k hk => ?_
    rw [List.append_assoc, List.singleton_append, ← drop_at hi] at hk
    rw [spec_l12Frames.l0, if_pos (ilt hi), if_pos (i0 i), if_pos (by omega), rdFrame_at hi, wrap_nat hi (by omega)]
    exact hk
theorem spec_l12Copy_ev (a b : List S56) (m : Int) (ha : a.length ≤ 1048576) (hb : b.length ≤ 1048576) : Evt fun k => spec_l12Copy.f k a b m = some (a, b, m) :=
  ((spec_l12Frames_l0 a ha a.length 0 [] (by omega) (by simp)).and (spec_l12Frames_l0 b hb b.length 0 [] (by omega) (by simp))).map fun k ⟨h1, h2⟩ => by
    have h1' : spec_l12Frames.f k a = some a := h1
    have h2' : spec_l12Frames.f k b = some b := h2
    simp only [spec_l12Copy.f, h1', h2', Option.bind_some]
theorem spec_l12Left_l0 (l : List S56) (x : Int) (hl : l.length ≤ 1048576) : ∀ (d i : Nat) (y : List S56), i + d = l.length → y.length ≤ i → Evt fun k => spec_l12Left.l0 k l x y (i : Int) = some (y ++ (l.drop i).filter fun s => !decide (s.f2 < x)) := by
  intro d
  induction d with
  | zero =>
    intro i y h hy
    refine Evt.step0 fun k => ?_
    rw [spec_l12Left.l0, if_neg (by omega), List.drop_of_length_le (by omega)]
    simp
  | succ d ih =>
    intro i y h hy
    have hi : i < l.length := by omega
    by_cases hb : l[i].f2 ≥ x
    · refine (ih (i + 1) (y ++ [l[i]]) (by omega) (by simp; omega)).step fun k hk => ?_
      rw [List.append_assoc, List.singleton_append] at hk
      rw [drop_at hi, List.filter_cons_of_pos (by simp; omega), spec_l12Left.l0, if_pos (ilt hi), if_pos (i0 i), rdFrame_at hi, if_pos hb, if_pos (by omega), wrap_nat hi (by omega)]
      exact hk
    · refine (ih (i + 1) y (by omega) (by omega)).step fun k hk => ?_
      rw [drop_at hi, List.filter_cons_of_neg (by simp; omega), spec_l12Left.l0, if_pos (ilt hi), if_pos (i0 i), rdFrame_at hi, if_neg hb, wrap_nat hi (by omega)]
      exact hk
theorem spec_l12Left_ev (l : List S56) (x : Int) (hl : l.length ≤ 1048576) : Evt fun k => spec_l12Left.f k l x = some (l.filter fun s => !decide (s.f2 < x)) := spec_l12Left_l0 l x hl l.length 0 [] (by omega) (by simp)
theorem impl_RaiseJoin_1_eq (s : S56) (m by_ : Int) (hm : -1 ≤ m ∧ m ≤ 1000000) (hb : 0 ≤ by_ ∧ by_ ≤ 1000000) : impl_RaiseJoin_1.f s.f0 s.f1 s.f2 s.f3 [m] [by_] = some (decide (s.f2 < m + 1 - by_)) := by
  unfold impl_RaiseJoin_1.f
  have e1 : rd [m] 0 = m := rfl
  have e2 : rd [by_] 0 = by_ := rfl
  have w1 : wrap64 (m + 1) = m + 1 := wrap_in (by omega) (by omega)
  have w2 : wrap64 (m + 1 - by_) = m + 1 - by_ := wrap_in (by omega) (by omega)
  rw [e1, e2, w1, w2, if_pos (by simp), if_pos (by simp)]
/-- What is left of a list. -/
def leftOf (l : List S56) (m by_ : Int) : List S56 := l.filter fun s => !decide (s.f2 < m + 1 - by_)
theorem leftOf_le (l : List S56) (m by_ : Int) : (leftOf l m by_).length ≤ l.length := List.length_filter_le _ _
def raiseF (a b : List S56) (m by_ t : Int) : List S56 × List S56 × Int × Int :=
  if joinB a b m = true ∧ (-1 ≤ t ∧ t ≤ 1000000) ∧ (0 ≤ by_ ∧ by_ ≤ 1000000) then
    (leftOf a (mx m t) by_, leftOf b (mx m t) by_, mx m t, (a.length : Int) + b.length - (leftOf a (mx m t) by_).length - (leftOf b (mx m t) by_).length)
  else (a, b, m, -1)
theorem joinB_parts {a b : List S56} {m : Int} (h : joinB a b m = true) : a.length ≤ 40 ∧ b.length ≤ 40 ∧ (-1 ≤ m ∧ m ≤ 1000000) := by
  unfold joinB eventsB at h
  simp only [Bool.and_eq_true, decide_eq_true_eq] at h
  exact ⟨h.1.1, h.2.1.1, h.2.2⟩
theorem raiseF_le (a b : List S56) (m by_ t : Int) : (raiseF a b m by_ t).1.length ≤ a.length ∧ (raiseF a b m by_ t).2.1.length ≤ b.length := by
  unfold raiseF
  split
  · exact ⟨leftOf_le _ _ _, leftOf_le _ _ _⟩
  · exact ⟨Nat.le_refl _, Nat.le_refl _⟩
theorem mx_range {m t : Int} (hm : -1 ≤ m ∧ m ≤ 1000000) (ht : -1 ≤ t ∧ t ≤ 1000000) : -1 ≤ mx m t ∧ mx m t ≤ 1000000 := by
  unfold mx
  split <;> omega
theorem spec_RaiseJoin_ev (a b : List S56) (m by_ t : Int) (ha : a.length ≤ 1048576) (hb : b.length ≤ 1048576) : Evt fun k => spec_RaiseJoin.f k a b m by_ t = some (raiseF a b m by_ t) := by
  have hj := spec_JoinOk_ev a b m ha hb
  have hf : Evt fun k => spec_RaiseJoin.j0 k by_ t true a b m = some (a, b, m, -1) := (spec_l12Copy_ev a b m ha hb).step fun k hk => by
    rw [spec_RaiseJoin.j0, if_pos rfl, hk]
    rfl
  unfold raiseF
  by_cases h1 : joinB a b m = true
  · by_cases h2 : -1 ≤ t ∧ t ≤ 1000000
    · by_cases h3 : 0 ≤ by_ ∧ by_ ≤ 1000000
      · obtain ⟨la, lb, hm⟩ := joinB_parts h1
        have hx := mx_range hm h2
        have e1 : spec_l04More.f m t = some (mx m t) := by
          unfold spec_l04More.f mx
          by_cases h : m < t
          · rw [if_pos h, if_pos h]
          · rw [if_neg h, if_neg h]
        have w1 : wrap64 (mx m t + 1) = mx m t + 1 := wrap_in (by omega) (by omega)
        have w2 : wrap64 (mx m t + 1 - by_) = mx m t + 1 - by_ := wrap_in (by omega) (by omega)
        have l1 := leftOf_le a (mx m t) by_
        have l2 := leftOf_le b (mx m t) by_
        have w3 : wrap64 (wrap64 (wrap64 ((a.length : Int) + (b.length : Int)) - ((leftOf a (mx m t) by_).length : Int)) - ((leftOf b (mx m t) by_).length : Int)) = (a.length : Int) + b.length - (leftOf a (mx m t) by_).length - (leftOf b (mx m t) by_).length := by
          rw [wrap_in (x := (a.length : Int) + (b.length : Int)) (by omega) (by omega), wrap_in (x := (a.length : Int) + (b.length : Int) - ((leftOf a (mx m t) by_).length : Int)) (by omega) (by omega), wrap_in (by omega) (by omega)]
        have ht : Evt fun k => spec_RaiseJoin.j0 k by_ t false a b m = some (leftOf a (mx m t) by_, leftOf b (mx m t) by_, mx m t, (a.length : Int) + b.length - (leftOf a (mx m t) by_).length - (leftOf b (mx m t) by_).length) := ((spec_l12Left_ev a (mx m t + 1 - by_) ha).and (spec_l12Left_ev b (mx m t + 1 - by_) hb)).step fun k ⟨q1, q2⟩ => by
          have q1' : spec_l12Left.f k a (mx m t + 1 - by_) = some (leftOf a (mx m t) by_) := q1
          have q2' : spec_l12Left.f k b (mx m t + 1 - by_) = some (leftOf b (mx m t) by_) := q2
          rw [spec_RaiseJoin.j0, if_neg (by simp)]
          simp only [e1, Option.bind_some, w1, w2, q1', q2', w3]
        refine (hj.and ht).map fun k ⟨q1, q2⟩ => ?_
        simp only [spec_RaiseJoin.f, q1, Option.bind_some, h1, if_true, spec_l04Mark.f, l01In_eq, h2, h3, and_self, decide_true, Bool.not_true, q2]
      · refine (hj.and hf).map fun k ⟨q1, q2⟩ => ?_
        simp only [spec_RaiseJoin.f, q1, Option.bind_some, h1, if_true, spec_l04Mark.f, l01In_eq, h2, h3, decide_true, decide_false, Bool.not_false, and_self, and_false, if_false, q2]
    · refine (hj.and hf).map fun k ⟨q1, q2⟩ => ?_
      simp only [spec_RaiseJoin.f, q1, Option.bind_some, h1, if_true, spec_l04Mark.f, l01In_eq, h2, decide_false, Bool.false_eq_true, false_and, and_false, if_false, q2]
  · refine (hj.and hf).map fun k ⟨q1, q2⟩ => ?_
    simp only [spec_RaiseJoin.f, q1, Option.bind_some, h1, if_false, false_and, q2]
    simp
theorem impl_RaiseJoin_ev (a b : List S56) (m by_ t : Int) (ha : a.length ≤ 1048576) (hb : b.length ≤ 1048576) : Evt fun k => impl_RaiseJoin.f k a b m by_ t = some (raiseF a b m by_ t) := by
  have hj := impl_JoinOk_ev a b m ha hb
  have hc : ∀ l : List S56, l.length ≤ 1048576 → slices_Clone_impl_Frame_impl_Frame.f l = some l := fun l hl => by
    unfold slices_Clone_impl_Frame_impl_Frame.f
    simp only [Option.bind_some, List.nil_append, List.length_nil]
    rw [if_pos (by omega)]
  have ho : impl_ownJoin.f a b m = some (a, b, m) := by simp only [impl_ownJoin.f, hc a ha, hc b hb, Option.bind_some]
  have hf : Evt fun k => impl_RaiseJoin.j0 k t true a b m by_ a b m = some (a, b, m, -1) := Evt.step0 fun k => by rw [impl_RaiseJoin.j0, if_pos rfl]
  unfold raiseF
  by_cases h1 : joinB a b m = true
  · by_cases h2 : -1 ≤ t ∧ t ≤ 1000000
    · by_cases h3 : 0 ≤ by_ ∧ by_ ≤ 1000000
      · obtain ⟨la, lb, hm⟩ := joinB_parts h1
        have hx := mx_range hm h2
        have l1 := leftOf_le a (mx m t) by_
        have l2 := leftOf_le b (mx m t) by_
        have w3 : wrap64 (wrap64 (wrap64 ((a.length : Int) + (b.length : Int)) - ((leftOf a (mx m t) by_).length : Int)) - ((leftOf b (mx m t) by_).length : Int)) = (a.length : Int) + b.length - (leftOf a (mx m t) by_).length - (leftOf b (mx m t) by_).length := by
          rw [wrap_in (x := (a.length : Int) + (b.length : Int)) (by omega) (by omega), wrap_in (x := (a.length : Int) + (b.length : Int) - ((leftOf a (mx m t) by_).length : Int)) (by omega) (by omega), wrap_in (by omega) (by omega)]
        have ht : Evt fun k => impl_RaiseJoin.j0 k t false a b m by_ a b m = some (leftOf a (mx m t) by_, leftOf b (mx m t) by_, mx m t, (a.length : Int) + b.length - (leftOf a (mx m t) by_).length - (leftOf b (mx m t) by_).length) := ((rj_delete_ev a [mx m t] [by_] _ (fun s _ => impl_RaiseJoin_1_eq s (mx m t) by_ hx h3) ha).and (rj_delete_ev b [mx m t] [by_] _ (fun s _ => impl_RaiseJoin_1_eq s (mx m t) by_ hx h3) hb)).step fun k ⟨q1, q2⟩ => by
          have q1' : slices_DeleteFunc_impl_Frame_impl_Frame_impl_RaiseJoin_1.f k a () [mx m t] [by_] = some (leftOf a (mx m t) by_) := q1
          have q2' : slices_DeleteFunc_impl_Frame_impl_Frame_impl_RaiseJoin_1.f k b () [mx m t] [by_] = some (leftOf b (mx m t) by_) := q2
          rw [impl_RaiseJoin.j0, if_neg (by simp)]
          simp only [Option.bind_some, q1', q2', w3]
        refine (hj.and ht).map fun k ⟨q1, q2⟩ => ?_
        simp only [impl_RaiseJoin.f, ho, q1, Option.bind_some, h1, if_true, impl_isMark.f, impl_isTime_eq, within_eq, h2, h3, and_self, decide_true, Bool.not_true, q2]
      · refine (hj.and hf).map fun k ⟨q1, q2⟩ => ?_
        simp only [impl_RaiseJoin.f, ho, q1, Option.bind_some, h1, if_true, impl_isMark.f, impl_isTime_eq, within_eq, h2, h3, decide_true, decide_false, Bool.not_false, and_self, and_false, if_false, q2]
    · refine (hj.and hf).map fun k ⟨q1, q2⟩ => ?_
      simp only [impl_RaiseJoin.f, ho, q1, Option.bind_some, h1, if_true, impl_isMark.f, within_eq, h2, decide_false, Bool.false_eq_true, false_and, and_false, if_false, q2]
  · refine (hj.and hf).map fun k ⟨q1, q2⟩ => ?_
    simp only [impl_RaiseJoin.f, ho, q1, Option.bind_some, h1, if_false, false_and, q2]
    simp

theorem FnExactRaiseJoin (x0 : List S53 × List S53 × Int) (x1 x2 : Int) (w : AllOf (fun x : S53 => I64 x.f0 ∧ I64 x.f1 ∧ I64 x.f2 ∧ I64 x.f3) x0.1 ∧ AllOf (fun x : S53 => I64 x.f0 ∧ I64 x.f1 ∧ I64 x.f2 ∧ I64 x.f3) x0.2.1 ∧ I64 x0.2.2) (_ : I64 x1) (_ : I64 x2) :
    ∃ k, laws_FnExactRaiseJoin.f k x0.1 x0.2.1 x0.2.2 x1 x2 = some true := by
  obtain ⟨a, b, m⟩ := x0
  obtain ⟨r, hr⟩ := szJoin_some a b m w.1.1 w.2.1.1
  by_cases hneg : r < 0
  · exact ⟨0, by simp only [laws_FnExactRaiseJoin.f, hr, Option.bind_some, if_pos hneg]⟩
  rcases szJoin_small a b m w.1.1 w.2.1.1 r hr with hneg' | ⟨ha, hb⟩
  · exact absurd hneg' hneg
  have ha' : (a.map cvFrame).length ≤ 1048576 := by simpa using ha
  have hb' : (b.map cvFrame).length ≤ 1048576 := by simpa using hb
  have t0 := toJoin_ev a b m ha hb
  have sp := spec_RaiseJoin_ev (a.map cvFrame) (b.map cvFrame) m x1 x2 ha' hb'
  have im := impl_RaiseJoin_ev (a.map cvFrame) (b.map cvFrame) m x1 x2 ha' hb'
  have hle := raiseF_le (a.map cvFrame) (b.map cvFrame) m x1 x2
  have ej := eqJoin_ev (a.map cvFrame) (b.map cvFrame) m ha' hb'
  generalize raiseF (a.map cvFrame) (b.map cvFrame) m x1 x2 = g at sp im hle
  have eg := eqJoin_ev g.1 g.2.1 g.2.2.1 (by omega) (by omega)
  obtain ⟨y0, m0, _⟩ := markFrameS_ev 1 (a.map cvFrame) (by omega) (by omega)
  obtain ⟨y1, m1, _⟩ := markFrameS_ev (1 + 4 * ((a.map cvFrame).length : Int)) (b.map cvFrame) (by omega) (by omega)
  obtain ⟨z0, p0, q0⟩ := markFrameS_ev 1 g.1 (by omega) (by omega)
  obtain ⟨z1, p1, q1⟩ := markFrameS_ev (1 + 4 * (g.1.length : Int)) g.2.1 (by omega) (by omega)
  have mj : Evt fun k => laws_markJoin.f k (a.map cvFrame) (b.map cvFrame) m 1 = some (1 + 4 * ((a.map cvFrame).length : Int) + 4 * ((b.map cvFrame).length : Int), y0, y1) := (m0.and m1).map fun k ⟨h1, h2⟩ => by
    simp only [laws_markJoin.f, h1, h2, Option.bind_some]
  have mg : Evt fun k => laws_markJoin.f k g.1 g.2.1 g.2.2.1 1 = some (1 + 4 * (g.1.length : Int) + 4 * (g.2.1.length : Int), z0, z1) := (p0.and p1).map fun k ⟨h1, h2⟩ => by
    simp only [laws_markJoin.f, h1, h2, Option.bind_some]
  have hn3 : ¬ (1 + 4 * (g.1.length : Int) < 0) := by omega
  have hn4 : ¬ (1 + 4 * (g.1.length : Int) + 4 * (g.2.1.length : Int) < 0) := by omega
  have hn2 : ¬ (1 + 4 * ((a.map cvFrame).length : Int) + 4 * ((b.map cvFrame).length : Int) < 0) := by omega
  have hg : Evt fun k => laws_heldJoin.f k z0 z1 g.2.2.1 1 = some (1 + 4 * (g.1.length : Int) + 4 * (g.2.1.length : Int)) := (q0.and q1).map fun k ⟨h1, h2⟩ => by
    simp only [laws_heldJoin.f, h1, h2, Option.bind_some, if_neg hn3, if_neg hn4]
  have j2 : Evt fun k => laws_FnExactRaiseJoin.j2 k (1 + 4 * (g.1.length : Int) + 4 * (g.2.1.length : Int)) false z0 z1 g.2.2.1 = some true := hg.step fun k a1 => by
    simp only [laws_FnExactRaiseJoin.j2, a1, Option.bind_some, if_neg hn4, if_true, Bool.false_eq_true, if_false]
  have j1 : Evt fun k => laws_FnExactRaiseJoin.j1 k x1 x2 g.2.2.2 false a b m g.1 g.2.1 g.2.2.1 g.1 g.2.1 g.2.2.1 = some true := (mg.and (hg.and (t0.and (im.and (eg.and j2))))).step fun k ⟨a1, a2, a3, a4, a5, a6⟩ => by
    simp only [laws_FnExactRaiseJoin.j1, a1, a2, a3, a4, a5, a6, Option.bind_some, if_neg hn4, if_true, Bool.false_eq_true, if_false, bne_self_eq_false]
  have j0 : Evt fun k => laws_FnExactRaiseJoin.j0 k x1 x2 g.2.2.2 g.2.2.2 false a b m g.1 g.2.1 g.2.2.1 (a.map cvFrame) (b.map cvFrame) m g.1 g.2.1 g.2.2.1 = some true := (t0.and (ej.and (mj.and (eg.and j1)))).step fun k ⟨a1, a2, a3, a4, a5⟩ => by
    simp only [laws_FnExactRaiseJoin.j0, a1, a2, a3, a4, a5, Option.bind_some, if_neg hn2, if_true, Bool.false_eq_true, if_false, bne_self_eq_false]
  obtain ⟨k, a1, a2, a3, a4, a5⟩ := (t0.and (sp.and (im.and (eg.and j0)))).ex
  refine ⟨k, ?_⟩
  simp only [laws_FnExactRaiseJoin.f, hr, if_neg hneg, Option.bind_some, a1, a2, a3, a4, a5, if_true, bne_self_eq_false]
end Go.Proofs.Ytkdndllgocdbdaa.Pure
