/- FnExactHeldIn: the program's HeldIn tells how many events are held as the reference does, and leaves the join alone: for all joins. -/
import Derived.Test.YtkdndllgocdbdaaPFnExactHeldInx
import Derived.Test.YtkdndllgocdbdaaKit
namespace Go.Proofs.Ytkdndllgocdbdaa.Pure
open Go.RowKit Go.Proofs.Ytkdndllgocdbdaa.PFnExactHeldIn Go.Proofs.YtkdndllgocdbdaaW.PrintWords Go.Proofs.YtkdndllgocdbdaaW.PrintLast Go.Proofs.Ytkdndllgocdbdaa.Kit
set_option linter.unusedVariables false
set_option linter.unusedSimpArgs false

theorem rdFrame_at {xs : List S56} {i : Nat} (h : i < xs.length) : rd_T56 xs (i : Int) = xs[i] := by
  simp [rd_T56, List.getD_eq_getElem?_getD, List.getElem?_eq_getElem h]
theorem rdFrame_set {xs : List S56} {i : Nat} (h : i < xs.length) (v : S56) : rd_T56 (xs.set i v) (i : Int) = v := by
  rw [rdFrame_at (by simpa using h)]
  simp

theorem rdLFrame_at {xs : List S53} {i : Nat} (h : i < xs.length) : rd_T53 xs (i : Int) = xs[i] := by
  simp [rd_T53, List.getD_eq_getElem?_getD, List.getElem?_eq_getElem h]
def cvFrame (x : S53) : S56 := ⟨x.f0, x.f1, x.f2, x.f3⟩
theorem toFrameS_l0 (l : List S53) (hl : l.length ≤ 9223372036854775807) : ∀ (d i : Nat) (x : List S56), i + d = l.length → x.length = (l.map cvFrame).length → x.take i = (l.map cvFrame).take i →
    Evt fun k => laws_toFrameS.l0 k l x (i : Int) = some (l.map cvFrame) := by
  intro d
  induction d with
  | zero =>
    intro i x h hx ht
    refine Evt.step0 fun k => ?_
    rw [laws_toFrameS.l0, if_neg (by omega), fill_end hx (by simp; omega) ht]
  | succ d ih =>
    intro i x h hx ht
    have hi : i < l.length := by omega
    obtain ⟨h1, h2⟩ := fill_step (v := cvFrame l[i]) hx (by simpa using hi) ht (by simp)
    have hxl : (i : Int) < (x.length : Int) := by rw [hx, List.length_map]; omega
    refine (ih (i + 1) (x.set i (cvFrame l[i])) (by omega) h1 h2).step fun k hk => ?_
    rw [laws_toFrameS.l0, if_pos (ilt hi), if_pos (i0 i), rdLFrame_at hi]
    simp only [laws_toFrame.f, Option.bind_some, Int.toNat_natCast]
    rw [if_pos hxl, wrap_nat hi hl]
    exact hk
theorem toFrameS_ev (l : List S53) (hl : l.length ≤ 1048576) : Evt fun k => laws_toFrameS.f k l = some (l.map cvFrame) := by
  refine (toFrameS_l0 l (by omega) l.length 0 (List.replicate l.length z56) (by omega) (by simp) (by simp)).map fun k hk => ?_
  rw [laws_toFrameS.f, if_pos (by omega), if_pos (by omega)]
  exact hk

theorem eqFrame_refl (x : S56) : laws_eqFrame.f x.f0 x.f1 x.f2 x.f3 x.f0 x.f1 x.f2 x.f3 = some true := by simp [laws_eqFrame.f]
theorem eqFrameS_l0 (l : List S56) (hl : l.length ≤ 9223372036854775807) : ∀ (d i : Nat), i + d = l.length → Evt fun k => laws_eqFrameS.l0 k l l (i : Int) = some true := by
  intro d
  induction d with
  | zero =>
    intro i h
    refine Evt.step0 fun k => ?_
    rw [laws_eqFrameS.l0, if_neg (by omega)]
  | succ d ih =>
    intro i h
    have hi : i < l.length := by omega
    refine (ih (i + 1) (by omega)).step fun k hk => ?_
    rw [laws_eqFrameS.l0, if_pos (ilt hi), if_pos (i0 i), if_pos (ilt hi), eqFrame_refl]
    simp only [Option.bind_some, if_true]
    rw [wrap_nat hi hl]
    exact hk
theorem eqFrameS_ev (l : List S56) (hl : l.length ≤ 9223372036854775807) : Evt fun k => laws_eqFrameS.f k l l = some true :=
  (eqFrameS_l0 l hl l.length 0 (by omega)).map fun k hk => by rw [laws_eqFrameS.f, if_pos rfl]; exact hk

theorem l01In_eq (a b c : Int) : spec_l01In.f a b c = some (decide (b ≤ a ∧ a ≤ c)) := by
  unfold spec_l01In.f
  by_cases h : b ≤ a <;> simp [h]
theorem within_eq (a b c : Int) : impl_within.f a b c = some (decide (b ≤ a ∧ a ≤ c)) := by
  unfold impl_within.f
  by_cases h : b ≤ a <;> simp [h]

/-- A right frame. -/
def frameB (kind key time value : Int) : Bool :=
  if kind = 1 then decide ((0 ≤ key ∧ key ≤ 65535) ∧ (0 ≤ time ∧ time ≤ 1000000) ∧ (-1000000 ≤ value ∧ value ≤ 1000000))
  else if kind = 2 then decide (key = 0 ∧ (0 ≤ time ∧ time ≤ 1000000) ∧ value = 0)
  else decide (kind = 3 ∧ key = 0 ∧ time = 0 ∧ value = 0)
theorem impl_isTime_eq (t : Int) : impl_isTime.f t = some (decide (0 ≤ t ∧ t ≤ 1000000)) := by
  unfold impl_isTime.f
  simp only [within_eq, Option.bind_some]
theorem impl_isKey_eq (t : Int) : impl_isKey.f t = some (decide (0 ≤ t ∧ t ≤ 65535)) := by
  unfold impl_isKey.f
  simp only [within_eq, Option.bind_some]
theorem impl_isValue_eq (t : Int) : impl_isValue.f t = some (decide (-1000000 ≤ t ∧ t ≤ 1000000)) := by
  unfold impl_isValue.f
  simp only [within_eq, Option.bind_some]
theorem spec_FrameOk_eq (a b c d : Int) : spec_FrameOk.f a b c d = some (frameB a b c d) := by
  unfold spec_FrameOk.f frameB
  simp only [l01In_eq, Option.bind_some]
  by_cases h1 : a = 1
  · by_cases hb : 0 ≤ b ∧ b ≤ 65535 <;> by_cases hc : 0 ≤ c ∧ c ≤ 1000000 <;> simp [h1, hb, hc]
  · by_cases h2 : a = 2
    · by_cases hb : b = 0 <;> by_cases hc : 0 ≤ c ∧ c ≤ 1000000 <;> by_cases hd : d = 0 <;> simp [h2, hb, hc, hd]
    · by_cases h3 : a = 3
      · by_cases hb : b = 0 <;> by_cases hc : c = 0 <;> by_cases hd : d = 0 <;> simp [h3, hb, hc, hd]
      · simp [h1, h2, h3]
theorem impl_FrameOk_eq (a b c d : Int) : impl_FrameOk.f a b c d = some (frameB a b c d) := by
  unfold impl_FrameOk.f frameB
  simp only [impl_isKey_eq, impl_isTime_eq, impl_isValue_eq, Option.bind_some]
  by_cases h1 : a = 1
  · by_cases hb : 0 ≤ b ∧ b ≤ 65535 <;> by_cases hc : 0 ≤ c ∧ c ≤ 1000000 <;> simp [h1, hb, hc]
  · by_cases h2 : a = 2
    · by_cases hb : b = 0 <;> by_cases hc : 0 ≤ c ∧ c ≤ 1000000 <;> by_cases hd : d = 0 <;> simp [h2, hb, hc, hd]
    · by_cases h3 : a = 3
      · by_cases hb : b = 0 <;> by_cases hc : c = 0 <;> by_cases hd : d = 0 <;> simp [h3, hb, hc, hd]
      · simp [h1, h2, h3]
/-- A right event. -/
def eventB (s : S56) : Bool := decide (s.f0 = 1) && frameB s.f0 s.f1 s.f2 s.f3
theorem impl_isEvent_eq (s : S56) : impl_isEvent.f s.f0 s.f1 s.f2 s.f3 = some (eventB s) := by
  unfold impl_isEvent.f eventB
  simp only [impl_FrameOk_eq, Option.bind_some]
  by_cases h : s.f0 = 1 <;> simp [h]

theorem spec_l12Event_eq (s : S56) : spec_l12Event.f s.f0 s.f1 s.f2 s.f3 = some (eventB s) := by
  unfold spec_l12Event.f eventB
  simp only [spec_FrameOk_eq, Option.bind_some]
  by_cases h : frameB s.f0 s.f1 s.f2 s.f3 = true
  · simp only [h, if_true]; by_cases h1 : s.f0 = 1 <;> simp [h1]
  · simp [h]
/-- Right events, and not too many. -/
def eventsB (l : List S56) : Bool := decide (l.length ≤ 40) && l.all eventB
theorem spec_l12Events_l0 (l : List S56) (hl : l.length ≤ 1048576) : ∀ (d i : Nat), i + d = l.length → Evt fun k => spec_l12Events.l0 k l (i : Int) = some ((l.drop i).all eventB) := by
  intro d
  induction d with
  | zero =>
    intro i h
    refine Evt.step0 fun k => ?_
    rw [spec_l12Events.l0, if_neg (by omega), List.drop_of_length_le (by omega)]
    rfl
  | succ d ih =>
    intro i h
    have hi : i < l.length := by omega
    refine (ih (i + 1) (by omega)).step fun k hk => ?_
    rw [spec_l12Events.l0, if_pos (ilt hi), if_pos (i0 i), rdFrame_at hi, spec_l12Event_eq, drop_at hi, List.all_cons]
    simp only [Option.bind_some]
    rw [wrap_nat hi (by omega), hk]
    by_cases h1 : eventB l[i] = true <;> simp [h1]
theorem spec_l12Events_ev (l : List S56) (hl : l.length ≤ 1048576) : Evt fun k => spec_l12Events.f k l = some (eventsB l) := by
  refine (spec_l12Events_l0 l hl l.length 0 (by omega)).map fun k hk => ?_
  unfold spec_l12Events.f eventsB
  by_cases h : l.length ≤ 40
  · rw [if_neg (by omega)]
    simpa [h] using hk
  · rw [if_pos (by omega)]
    simp [h]
theorem impl_areEvents_1_eq (s : S56) : impl_areEvents_1.f s.f0 s.f1 s.f2 s.f3 = some (!eventB s) := by
  unfold impl_areEvents_1.f
  rw [impl_isEvent_eq]
  rfl
theorem index_areEvents_l0 (l : List S56) (hl : l.length ≤ 1048576) : ∀ (d i : Nat), i + d = l.length →
    ∃ r : Int, (Evt fun k => slices_IndexFunc_impl_Frame_impl_Frame_impl_areEvents_1.l0 k l (l.length : Int) (i : Int) = some r) ∧ decide (r ≥ 0) = !(l.drop i).all eventB := by
  intro d
  induction d with
  | zero =>
    intro i h
    refine ⟨-1, Evt.step0 fun k => ?_, ?_⟩
    · rw [slices_IndexFunc_impl_Frame_impl_Frame_impl_areEvents_1.l0, if_neg (by omega)]
    · rw [List.drop_of_length_le (by omega)]; rfl
  | succ d ih =>
    intro i h
    have hi : i < l.length := by omega
    by_cases h1 : eventB l[i] = true
    · obtain ⟨r, hr, hb⟩ := ih (i + 1) (by omega)
      refine ⟨r, hr.step fun k hk => ?_, ?_⟩
      · rw [slices_IndexFunc_impl_Frame_impl_Frame_impl_areEvents_1.l0, if_pos (ilt hi), if_pos (i0 i), if_pos (ilt hi), rdFrame_at hi, impl_areEvents_1_eq]
        simp only [Option.bind_some, h1]
        rw [if_neg (by simp), wrap_nat hi (by omega), hk]
      · rw [drop_at hi, List.all_cons, h1, hb]; simp
    · refine ⟨(i : Int), Evt.step0 fun k => ?_, ?_⟩
      · rw [slices_IndexFunc_impl_Frame_impl_Frame_impl_areEvents_1.l0, if_pos (ilt hi), if_pos (i0 i), if_pos (ilt hi), rdFrame_at hi, impl_areEvents_1_eq]
        simp [h1]
      · rw [drop_at hi, List.all_cons]; simp [h1]
theorem impl_areEvents_ev (l : List S56) (hl : l.length ≤ 1048576) : Evt fun k => impl_areEvents.f k l = some (eventsB l) := by
  obtain ⟨r, hr, hb⟩ := index_areEvents_l0 l hl l.length 0 (by omega)
  refine hr.map fun k hk => ?_
  have hk' : slices_IndexFunc_impl_Frame_impl_Frame_impl_areEvents_1.f k l () = some r := hk
  unfold impl_areEvents.f eventsB slices_ContainsFunc_impl_Frame_impl_Frame_impl_areEvents_1.f
  rw [hk']
  by_cases h : l.length ≤ 40
  · rw [if_pos (by omega)]
    simp only [Option.bind_some, hb]
    simp [h]
  · rw [if_neg (by omega)]
    simp [h]

theorem szFrameS_eq (l : List S53) (n : Int) (hn : 0 ≤ n ∧ n ≤ 1048576) (hl : l.length ≤ 9223372036854775807) : laws_szFrameS.f l n = some (if n - (l.length : Int) < 0 then -1 else n - (l.length : Int)) := by
  have hw : wrap64 (n - (l.length : Int)) = n - (l.length : Int) := wrap_in (by omega) (by omega)
  unfold laws_szFrameS.f
  rw [hw]
  by_cases h : n - (l.length : Int) < 0 <;> simp [h]

theorem szJoin_small (a b : List S53) (m : Int) (ha : a.length ≤ 9223372036854775807) (hb : b.length ≤ 9223372036854775807) (r : Int) (h : laws_szJoin.f a b m 1048576 = some r) : r < 0 ∨ (a.length ≤ 1048576 ∧ b.length ≤ 1048576) := by
  unfold laws_szJoin.f at h
  rw [szFrameS_eq a 1048576 (by omega) ha] at h
  simp only [Option.bind_some] at h
  by_cases h1 : 1048576 - (a.length : Int) < 0
  · rw [if_pos h1, if_pos (by omega)] at h
    left
    have := Option.some.inj h
    omega
  · rw [if_neg h1, if_neg h1, szFrameS_eq b _ (by omega) hb] at h
    simp only [Option.bind_some] at h
    by_cases h2 : 1048576 - (a.length : Int) - (b.length : Int) < 0
    · rw [if_pos h2, if_pos (by omega)] at h
      left
      have := Option.some.inj h
      omega
    · right
      omega
theorem szJoin_some (a b : List S53) (m : Int) (ha : a.length ≤ 9223372036854775807) (hb : b.length ≤ 9223372036854775807) : ∃ r, laws_szJoin.f a b m 1048576 = some r := by
  unfold laws_szJoin.f
  rw [szFrameS_eq a 1048576 (by omega) ha]
  simp only [Option.bind_some]
  by_cases h1 : 1048576 - (a.length : Int) < 0
  · rw [if_pos h1, if_pos (by omega)]
    exact ⟨_, rfl⟩
  · rw [if_neg h1, if_neg h1, szFrameS_eq b _ (by omega) hb]
    simp only [Option.bind_some]
    split <;> exact ⟨_, rfl⟩
theorem toJoin_ev (a b : List S53) (m : Int) (ha : a.length ≤ 1048576) (hb : b.length ≤ 1048576) : Evt fun k => laws_toJoin.f k a b m = some (a.map cvFrame, b.map cvFrame, m) :=
  ((toFrameS_ev a ha).and (toFrameS_ev b hb)).map fun k ⟨h1, h2⟩ => by simp only [laws_toJoin.f, h1, h2, Option.bind_some]
theorem eqJoin_ev (a b : List S56) (m : Int) (ha : a.length ≤ 1048576) (hb : b.length ≤ 1048576) : Evt fun k => laws_eqJoin.f k a b m a b m = some true :=
  ((eqFrameS_ev a (by omega)).and (eqFrameS_ev b (by omega))).map fun k ⟨h1, h2⟩ => by simp [laws_eqJoin.f, h1, h2]

def joinB (a b : List S56) (m : Int) : Bool := eventsB a && (eventsB b && decide (-1 ≤ m ∧ m ≤ 1000000))
theorem spec_JoinOk_ev (a b : List S56) (m : Int) (ha : a.length ≤ 1048576) (hb : b.length ≤ 1048576) : Evt fun k => spec_JoinOk.f k a b m = some (joinB a b m) :=
  ((spec_l12Events_ev a ha).and (spec_l12Events_ev b hb)).map fun k ⟨h1, h2⟩ => by
    unfold spec_JoinOk.f joinB spec_l04Mark.f
    simp only [h1, h2, l01In_eq, Option.bind_some]
    by_cases h3 : eventsB a = true <;> by_cases h4 : eventsB b = true <;> simp [h3, h4]
theorem impl_JoinOk_ev (a b : List S56) (m : Int) (ha : a.length ≤ 1048576) (hb : b.length ≤ 1048576) : Evt fun k => impl_JoinOk.f k a b m = some (joinB a b m) :=
  ((impl_areEvents_ev a ha).and (impl_areEvents_ev b hb)).map fun k ⟨h1, h2⟩ => by
    unfold impl_JoinOk.f joinB impl_isMark.f
    simp only [h1, h2, within_eq, Option.bind_some]
    by_cases h3 : eventsB a = true <;> by_cases h4 : eventsB b = true <;> simp [h3, h4]

def heldIn (a b : List S56) (m : Int) : Int := if joinB a b m = true then (a.length : Int) + (b.length : Int) else -1
theorem spec_HeldIn_ev (a b : List S56) (m : Int) (ha : a.length ≤ 1048576) (hb : b.length ≤ 1048576) : Evt fun k => spec_HeldIn.f k a b m = some (heldIn a b m) :=
  (spec_JoinOk_ev a b m ha hb).map fun k h => by
    have hw : wrap64 ((a.length : Int) + (b.length : Int)) = (a.length : Int) + (b.length : Int) := wrap_in (by omega) (by omega)
    simp only [spec_HeldIn.f, h, Option.bind_some, heldIn, hw]
    split <;> rfl
theorem impl_HeldIn_ev (a b : List S56) (m : Int) (ha : a.length ≤ 1048576) (hb : b.length ≤ 1048576) : Evt fun k => impl_HeldIn.f k a b m = some (heldIn a b m) :=
  (impl_JoinOk_ev a b m ha hb).map fun k h => by
    have hw : wrap64 ((a.length : Int) + (b.length : Int)) = (a.length : Int) + (b.length : Int) := wrap_in (by omega) (by omega)
    simp only [impl_HeldIn.f, h, Option.bind_some, heldIn, hw]
    split <;> rfl

theorem FnExactHeldIn (x0 : List S53 × List S53 × Int) (w : AllOf (fun x : S53 => I64 x.f0 ∧ I64 x.f1 ∧ I64 x.f2 ∧ I64 x.f3) x0.1 ∧ AllOf (fun x : S53 => I64 x.f0 ∧ I64 x.f1 ∧ I64 x.f2 ∧ I64 x.f3) x0.2.1 ∧ I64 x0.2.2) :
    ∃ k, laws_FnExactHeldIn.f k x0.1 x0.2.1 x0.2.2 = some true := by
  obtain ⟨a, b, m⟩ := x0
  obtain ⟨r, hr⟩ := szJoin_some a b m w.1.1 w.2.1.1
  by_cases hneg : r < 0
  · exact ⟨0, by simp only [laws_FnExactHeldIn.f, hr, Option.bind_some, if_pos hneg]⟩
  rcases szJoin_small a b m w.1.1 w.2.1.1 r hr with hneg' | ⟨ha, hb⟩
  · exact absurd hneg' hneg
  have ha' : (a.map cvFrame).length ≤ 1048576 := by simpa using ha
  have hb' : (b.map cvFrame).length ≤ 1048576 := by simpa using hb
  obtain ⟨k, h1, h2, h3, h4⟩ := ((toJoin_ev a b m ha hb).and ((spec_HeldIn_ev (a.map cvFrame) (b.map cvFrame) m ha' hb').and ((impl_HeldIn_ev (a.map cvFrame) (b.map cvFrame) m ha' hb').and (eqJoin_ev (a.map cvFrame) (b.map cvFrame) m ha' hb')))).ex
  refine ⟨k, ?_⟩
  simp only [laws_FnExactHeldIn.f, hr, if_neg hneg, Option.bind_some, h1, h2, h3, h4, if_true]
end Go.Proofs.Ytkdndllgocdbdaa.Pure
