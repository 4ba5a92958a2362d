import Derived.Test.YtplcjkgbjapbmaaUp
import Derived.Test.YtplcjkgbjapbmaaPMa
namespace Go.Proofs.Ytplcjkgbjapbmaa.C
open Go.RowKit Go.Proofs.YtplcjkgbjapbmaaW Go.Proofs.YtplcjkgbjapbmaaW.PrintWords Go.Proofs.Ytplcjkgbjapbmaa.U
set_option maxHeartbeats 1000000
set_option maxRecDepth 100000
set_option linter.unusedVariables false
set_option linter.unusedSimpArgs false
/-! What a function answers, told without memory; how it is used at a call, and how it is shown. -/
inductive SArg : Type 1 where
  | c (v : Value)
  | r {α : Type} (d : Kd α) (t : Nat) (xs : List α)
inductive Arg : Type 1 where
  | o (s : SArg)
  | a (l : List SArg)
inductive Res : Type 1 where
  | one (x : Arg)
  | many (l : List Arg)
def SArg.ok (w : World) : SArg → Value → Prop
  | .c u, v => v = u
  | .r d _ xs, v => ∃ A c, v = .slice A xs.length c ∧ xs.length ≤ c ∧ d.C w A xs.length xs
def okL (w : World) : List SArg → List Value → Prop
  | [], [] => True
  | s :: l, v :: vs => s.ok w v ∧ okL w l vs
  | _, _ => False
def Arg.ok (w : World) : Arg → Value → Prop
  | .o s, v => s.ok w v
  | .a l, v => ∃ vs : List Value, v = .agg vs.toArray ∧ okL w l vs
def okA (w : World) : List Arg → List Value → Prop
  | [], [] => True
  | s :: l, v :: vs => s.ok w v ∧ okA w l vs
  | _, _ => False
def SArg.cnt : SArg → Nat
  | .c _ => 0
  | .r _ _ _ => 1
def cntL : List SArg → Nat
  | [] => 0
  | s :: l => s.cnt + cntL l
def Arg.cnt : Arg → Nat
  | .o s => s.cnt
  | .a l => cntL l
def cntA : List Arg → Nat
  | [] => 0
  | s :: l => s.cnt + cntA l
def SArg.made (w : World) (ow : Om) (j : Nat) : SArg → Value → Prop
  | .c u, v => v = u
  | .r d t xs, v => ∃ B, d.S t w B (ow j) v xs
def madeL (w : World) (ow : Om) : Nat → List SArg → List Value → Prop
  | _, [], [] => True
  | j, s :: l, v :: vs => s.made w ow j v ∧ madeL w ow (j + s.cnt) l vs
  | _, _, _ => False
def Arg.made (w : World) (ow : Om) (j : Nat) : Arg → Value → Prop
  | .o s, v => s.made w ow j v
  | .a l, v => ∃ vs : List Value, v = .agg vs.toArray ∧ madeL w ow j l vs
def madeA (w : World) (ow : Om) : Nat → List Arg → List Value → Prop
  | _, [], [] => True
  | j, s :: l, v :: vs => s.made w ow j v ∧ madeA w ow (j + s.cnt) l vs
  | _, _, _ => False
def Res.made (w : World) (ow : Om) : Res → Value → Prop
  | .one x, v => x.made w ow 0 v
  | .many l, v => ∃ vs : List Value, v = .tuple vs.toArray ∧ madeA w ow 0 l vs
def Made (b : Nat) (w : World) (r : Res) (v : Value) : Prop := ∃ ow : Om, (∀ j k, ow j k → b ≤ k ∧ k < w.heap.size) ∧ (∀ i j, i ≠ j → ∀ k, ow i k → ¬ ow j k) ∧ r.made w ow v
/-- Called with args the function answers r; what it makes is new, and nothing old is written. -/
def FnR (P : Program) (f : FuncId) (args : List Arg) (r : Res) : Prop := ∀ w vs, okA w args vs → Calls P f vs.toArray w (fun e w' => ∃ v, e = .returned v ∧ Made w.heap.size w' r v ∧ Below w.heap.size w w')
/-! ### names for what is made -/
def SArg.av (n : Nat) : SArg → SV
  | .c v => .c v
  | .r _ _ _ => .i n
def avL : Nat → List SArg → List SV
  | _, [] => []
  | n, s :: l => s.av n :: avL (n + s.cnt) l
def Arg.tv (n : Nat) : Arg → TV
  | .o s => .o (s.av n)
  | .a l => .a (avL n l)
def Arg.av (n : Nat) : Arg → AV
  | .o s => .o (s.av n)
  | .a l => .a (avL n l)
def tvA : Nat → List Arg → List TV
  | _, [] => []
  | n, s :: l => s.tv n :: tvA (n + s.cnt) l
def Res.av (n : Nat) : Res → AV
  | .one x => x.av n
  | .many l => .t (tvA n l)
def SArg.objs (n : Nat) : SArg → List (Nat × AObj)
  | .c _ => []
  | .r d t xs => [(n, .row d t xs)]
def objsL : Nat → List SArg → List (Nat × AObj)
  | _, [] => []
  | n, s :: l => s.objs n ++ objsL (n + s.cnt) l
def Arg.objs (n : Nat) : Arg → List (Nat × AObj)
  | .o s => s.objs n
  | .a l => objsL n l
def objsA : Nat → List Arg → List (Nat × AObj)
  | _, [] => []
  | n, s :: l => s.objs n ++ objsA (n + s.cnt) l
def Res.objs (n : Nat) : Res → List (Nat × AObj)
  | .one x => x.objs n
  | .many l => objsA n l
def Res.cnt : Res → Nat
  | .one x => x.cnt
  | .many l => cntA l
def someL : List (Nat × AObj) → List (Nat × Option AObj)
  | [] => []
  | (k, o) :: l => (k, some o) :: someL l
def trueL : List (Nat × AObj) → List (Nat × Bool)
  | [] => []
  | (k, _) :: l => (k, true) :: trueL l
def St.adds (σ : St) (l : List (Nat × AObj)) : St := { σ with H := updL σ.H (someL l), D := updL σ.D (trueL l) }
theorem someL_app : ∀ l m, someL (l ++ m) = someL l ++ someL m
  | [], _ => rfl
  | (k, o) :: l, m => by simp [someL, someL_app l m]
theorem trueL_app : ∀ l m, trueL (l ++ m) = trueL l ++ trueL m
  | [], _ => rfl
  | (k, o) :: l, m => by simp [trueL, trueL_app l m]
theorem updL_app {α : Type _} : ∀ (l m : List (Nat × α)) (f : Nat → α), updL f (l ++ m) = updL (updL f l) m
  | [], _, _ => rfl
  | (k, v) :: l, m, f => by simp [updL, updL_app l m]
theorem St.adds_app (σ : St) (l m : List (Nat × AObj)) : σ.adds (l ++ m) = (σ.adds l).adds m := by simp [St.adds, someL_app, trueL_app, updL_app]
section
variable {X : Cx} {σ : St} {μ : Mu} {ω : Om} {a : Act} {w : World}
/-- An object that lies there already, under a new name. -/
theorem Sat.add (h : Sat X σ μ ω a w) {id : Nat} {o : AObj} {v : Value} {own : Nat → Prop} (hid : σ.D id = false) (ho : o.holds X w (upd μ id (some v)) v own) (hown : ∀ k, own k → (X.S k ∨ X.w0.heap.size ≤ k) ∧ k < w.heap.size) (hsep : ∀ j oj, σ.H j = some oj → ∀ k, ω j k → ¬ own k) :
    Sat X (σ.adds [(id, o)]) (upd μ id (some v)) (upd ω id own) a w := by
  have h0 := h.made id hid
  have hle : Le μ (upd μ id (some v)) := Up_upd h0
  refine ⟨h.kept, h.size, h.defers, fun t av ht => ?_, fun j hj => ?_, fun j oj hj => ?_, fun j oj hj k hk => ?_, fun i j oi oj hi hj hne k hki hkj => ?_, fun q hq => ?_⟩
  · obtain ⟨u, hu, hc⟩ := h.slot t av ht
    exact ⟨u, hu, AV.con_mono hle hc⟩
  · by_cases e : j = id
    · subst e; simp [St.adds, trueL, updL, upd_same] at hj
    · rw [upd_ne _ e]; exact h.made j (by simpa [St.adds, trueL, updL, upd_ne _ e] using hj)
  · by_cases e : j = id
    · subst e
      simp only [St.adds, someL, updL, upd_same] at hj
      cases hj
      exact ⟨v, upd_same _ _ _, by rw [upd_same]; exact ho⟩
    · simp only [St.adds, someL, updL, upd_ne _ e] at hj
      obtain ⟨u, hu, hh⟩ := h.obj j oj hj
      exact ⟨u, hle _ _ hu, by rw [upd_ne _ e]; exact AObj.holds_mono hle hh⟩
  · by_cases e : j = id
    · subst e; rw [upd_same] at hk; exact hown k hk
    · rw [upd_ne _ e] at hk
      simp only [St.adds, someL, updL, upd_ne _ e] at hj
      exact h.own j oj hj k hk
  · by_cases ei : i = id
    · subst ei
      rw [upd_same] at hki
      rw [upd_ne _ (Ne.symm hne)] at hkj
      simp only [St.adds, someL, updL, upd_ne _ (Ne.symm hne)] at hj
      exact hsep j oj hj k hkj hki
    · rw [upd_ne _ ei] at hki
      simp only [St.adds, someL, updL, upd_ne _ ei] at hi
      by_cases ej : j = id
      · subst ej; rw [upd_same] at hkj; exact hsep i oi hi k hki hkj
      · rw [upd_ne _ ej] at hkj
        simp only [St.adds, someL, updL, upd_ne _ ej] at hj
        exact h.sep i j oi oj hi hj hne k hki hkj
  · have h1 := h.anc q hq
    have hne : q.1 ≠ id := fun e => by rw [e, h0] at h1; cases h1.1
    exact ⟨hle _ _ h1.1, by rw [upd_ne _ hne]; exact h1.2⟩
/-- Where the objects of a state lie: below b, or in rows told already. -/
def Inv (b : Nat) (ow : Om) (j : Nat) (σ : St) (ω : Om) : Prop := ∀ id o, σ.H id = some o → ∀ k, ω id k → k < b ∨ ∃ i, i < j ∧ ow i k
def freeD (σ : St) (n m : Nat) : Prop := ∀ k, n ≤ k → k < n + m → σ.D k = false
theorem freeD.adds {σ : St} {n m c : Nat} {l : List (Nat × AObj)} (h : freeD σ n (c + m)) (hl : ∀ q ∈ l, q.1 < n + c) : freeD (σ.adds l) (n + c) m := fun k h1 h2 => by
  have : k ∉ (trueL l).map (·.1) := by
    have : ∀ l : List (Nat × AObj), (∀ q ∈ l, q.1 < n + c) → k ∉ (trueL l).map (·.1) := by
      intro l
      induction l with
      | nil => intro _ h; cases h
      | cons q l ih =>
        intro hq hk
        simp only [trueL, List.map_cons, List.mem_cons] at hk
        rcases hk with e | hk
        · have := hq q List.mem_cons_self; omega
        · exact ih (fun q hq' => hq q (List.mem_cons_of_mem _ hq')) hk
    exact this l hl
  show updL σ.D (trueL l) k = false
  rw [updL_ne _ _ this]
  exact h k (by omega) (by omega)
theorem SArg.objs_lt (s : SArg) (n : Nat) : ∀ q ∈ s.objs n, q.1 < n + s.cnt := by
  cases s with
  | c v => intro q hq; cases hq
  | r d t xs => intro q hq; rw [SArg.objs, List.mem_singleton] at hq; subst hq; simp [SArg.cnt]
theorem objsL_lt : ∀ (l : List SArg) (n : Nat), ∀ q ∈ objsL n l, q.1 < n + cntL l
  | [], _, q, hq => by cases hq
  | s :: l, n, q, hq => by
    rcases List.mem_append.1 hq with hq | hq
    · have := SArg.objs_lt s n q hq; simp [cntL]; omega
    · have := objsL_lt l _ q hq; simp [cntL]; omega
theorem Arg.objs_lt (s : Arg) (n : Nat) : ∀ q ∈ s.objs n, q.1 < n + s.cnt := by
  cases s with
  | o s => exact SArg.objs_lt s n
  | a l => exact objsL_lt l n
section
variable {b : Nat} {ow : Om} (hb : ∀ j k, ow j k → X.S k ∨ X.w0.heap.size ≤ k) (ho1 : ∀ j k, ow j k → b ≤ k ∧ k < w.heap.size) (ho2 : ∀ i j, i ≠ j → ∀ k, ow i k → ¬ ow j k)
include hb ho1 ho2
theorem SArg.add {s : SArg} {v : Value} {j n : Nat} (hs : Sat X σ μ ω a w) (hi : Inv b ow j σ ω) (hm : s.made w ow j v) (hf : freeD σ n s.cnt) : ∃ μ1 ω1, Le μ μ1 ∧ (s.av n).con μ1 v ∧ Sat X (σ.adds (s.objs n)) μ1 ω1 a w ∧ Inv b ow (j + s.cnt) (σ.adds (s.objs n)) ω1 ∧ (∀ id, id < n → ω1 id = ω id) ∧ (∀ i, i < s.cnt → ω1 (n + i) = ow (j + i)) := by
  cases s with
  | c u => exact ⟨μ, ω, Le.refl _, hm, hs, hi, fun _ _ => rfl, fun i h => by simp [SArg.cnt] at h⟩
  | r d t xs =>
    obtain ⟨B, hR⟩ := hm
    have hid : σ.D n = false := hf n (Nat.le_refl _) (by simp [SArg.cnt])
    obtain ⟨A, c, e⟩ := Kd.R_slice (Kd.S_R hR)
    refine ⟨upd μ n (some v), upd ω n (ow j), Up_upd (hs.made n hid), ⟨upd_same _ _ _, by rw [e]; rfl⟩, hs.add hid ⟨B, hR⟩ (fun k hk => ⟨hb j k hk, (ho1 j k hk).2⟩) (fun i oi hi' k hk hk2 => ?_), fun id o hid' k hk => ?_, fun id hlt => upd_ne _ (by omega) _, fun i h => ?_⟩
    · rcases hi i oi hi' k hk with h1 | ⟨i', h1, h2⟩
      · have := ho1 j k hk2; omega
      · exact ho2 i' j (by omega) k h2 hk2
    rotate_left
    · have : i = 0 := by simpa [SArg.cnt] using h
      subst this
      exact upd_same _ _ _
    · by_cases e : id = n
      · subst e; rw [upd_same] at hk; exact .inr ⟨j, by simp [SArg.cnt], hk⟩
      · rw [upd_ne _ e] at hk
        simp only [St.adds, SArg.objs, someL, updL, upd_ne _ e] at hid'
        rcases hi id o hid' k hk with h1 | ⟨i', h1, h2⟩
        · exact .inl h1
        · exact .inr ⟨i', by omega, h2⟩
theorem axaddL : ∀ (l : List SArg) {vs : List Value} {j n : Nat} {σ : St} {μ : Mu} {ω : Om}, Sat X σ μ ω a w → Inv b ow j σ ω → madeL w ow j l vs → freeD σ n (cntL l) → ∃ μ1 ω1, Le μ μ1 ∧ conL μ1 (avL n l) vs ∧ Sat X (σ.adds (objsL n l)) μ1 ω1 a w ∧ Inv b ow (j + cntL l) (σ.adds (objsL n l)) ω1 ∧ (∀ id, id < n → ω1 id = ω id) ∧ (∀ i, i < cntL l → ω1 (n + i) = ow (j + i))
  | [], [], j, n, σ, μ, ω, hs, hi, _, _ => ⟨μ, ω, Le.refl _, trivial, hs, hi, fun _ _ => rfl, fun i h => by simp [cntL] at h⟩
  | s :: l, v :: vs, j, n, σ, μ, ω, hs, hi, hm, hf => by
    obtain ⟨μ1, ω1, h1, h2, h3, h4, e1, e2⟩ := SArg.add hb ho1 ho2 hs hi hm.1 (fun k hk1 hk2 => hf k hk1 (by simp [cntL]; omega))
    obtain ⟨μ2, ω2, k1, k2, k3, k4, f1, f2⟩ := axaddL l h3 h4 hm.2 (freeD.adds (c := s.cnt) (by simpa [cntL] using hf) (SArg.objs_lt s n))
    refine ⟨μ2, ω2, fun id v hv => k1 _ _ (h1 _ _ hv), ⟨SV.con_mono k1 h2, k2⟩, ?_, ?_, fun id hlt => (f1 id (by omega)).trans (e1 id hlt), fun i hlt => ?_⟩
    · rw [objsL, St.adds_app]; exact k3
    · rw [objsL, St.adds_app, cntL, ← Nat.add_assoc]; exact k4
    · rcases Nat.lt_or_ge i s.cnt with h | h
      · rw [f1 _ (by omega)]; exact e2 i h
      · have := f2 (i - s.cnt) (by simp [cntL] at hlt; omega)
        rw [show n + s.cnt + (i - s.cnt) = n + i by omega, show j + s.cnt + (i - s.cnt) = j + i by omega] at this
        exact this
  | [], _ :: _, _, _, _, _, _, _, _, hm, _ => hm.elim
  | _ :: _, [], _, _, _, _, _, _, _, hm, _ => hm.elim
theorem Arg.add {s : Arg} {v : Value} {j n : Nat} (hs : Sat X σ μ ω a w) (hi : Inv b ow j σ ω) (hm : s.made w ow j v) (hf : freeD σ n s.cnt) : ∃ μ1 ω1, Le μ μ1 ∧ (s.av n).con μ1 v ∧ (s.tv n).con μ1 v ∧ Sat X (σ.adds (s.objs n)) μ1 ω1 a w ∧ Inv b ow (j + s.cnt) (σ.adds (s.objs n)) ω1 ∧ (∀ id, id < n → ω1 id = ω id) ∧ (∀ i, i < s.cnt → ω1 (n + i) = ow (j + i)) := by
  cases s with
  | o s =>
    obtain ⟨μ1, ω1, h1, h2, h3, h4⟩ := SArg.add hb ho1 ho2 hs hi hm hf
    exact ⟨μ1, ω1, h1, h2, h2, h3, h4⟩
  | a l =>
    obtain ⟨vs, rfl, hm⟩ := hm
    obtain ⟨μ1, ω1, h1, h2, h3, h4⟩ := axaddL hb ho1 ho2 l hs hi hm hf
    exact ⟨μ1, ω1, h1, ⟨vs, rfl, h2⟩, ⟨vs, rfl, h2⟩, h3, h4⟩
theorem axaddA : ∀ (l : List Arg) {vs : List Value} {j n : Nat} {σ : St} {μ : Mu} {ω : Om}, Sat X σ μ ω a w → Inv b ow j σ ω → madeA w ow j l vs → freeD σ n (cntA l) → ∃ μ1 ω1, Le μ μ1 ∧ conT μ1 (tvA n l) vs ∧ Sat X (σ.adds (objsA n l)) μ1 ω1 a w ∧ Inv b ow (j + cntA l) (σ.adds (objsA n l)) ω1 ∧ (∀ id, id < n → ω1 id = ω id) ∧ (∀ i, i < cntA l → ω1 (n + i) = ow (j + i))
  | [], [], j, n, σ, μ, ω, hs, hi, _, _ => ⟨μ, ω, Le.refl _, trivial, hs, hi, fun _ _ => rfl, fun i h => by simp [cntA] at h⟩
  | s :: l, v :: vs, j, n, σ, μ, ω, hs, hi, hm, hf => by
    obtain ⟨μ1, ω1, h1, _, h2, h3, h4, e1, e2⟩ := Arg.add hb ho1 ho2 hs hi hm.1 (fun k hk1 hk2 => hf k hk1 (by simp [cntA]; omega))
    obtain ⟨μ2, ω2, k1, k2, k3, k4, f1, f2⟩ := axaddA l h3 h4 hm.2 (freeD.adds (c := s.cnt) (by simpa [cntA] using hf) (Arg.objs_lt s n))
    refine ⟨μ2, ω2, fun id v hv => k1 _ _ (h1 _ _ hv), ⟨TV.con_mono k1 h2, k2⟩, ?_, ?_, fun id hlt => (f1 id (by omega)).trans (e1 id hlt), fun i hlt => ?_⟩
    · rw [objsA, St.adds_app]; exact k3
    · rw [objsA, St.adds_app, cntA, ← Nat.add_assoc]; exact k4
    · rcases Nat.lt_or_ge i s.cnt with h | h
      · rw [f1 _ (by omega)]; exact e2 i h
      · have := f2 (i - s.cnt) (by simp [cntA] at hlt; omega)
        rw [show n + s.cnt + (i - s.cnt) = n + i by omega, show j + s.cnt + (i - s.cnt) = j + i by omega] at this
        exact this
  | [], _ :: _, _, _, _, _, _, _, _, hm, _ => hm.elim
  | _ :: _, [], _, _, _, _, _, _, _, hm, _ => hm.elim
theorem Res.add {r : Res} {v : Value} {n : Nat} (hs : Sat X σ μ ω a w) (hi : Inv b ow 0 σ ω) (hm : r.made w ow v) (hf : freeD σ n r.cnt) : ∃ μ1 ω1, Le μ μ1 ∧ (r.av n).con μ1 v ∧ Sat X (σ.adds (r.objs n)) μ1 ω1 a w := by
  cases r with
  | one x =>
    obtain ⟨μ1, ω1, h1, h2, _, h3, _⟩ := Arg.add hb ho1 ho2 hs hi hm hf
    exact ⟨μ1, ω1, h1, h2, h3⟩
  | many l =>
    obtain ⟨vs, rfl, hm⟩ := hm
    obtain ⟨μ1, ω1, h1, h2, h3, _⟩ := axaddA hb ho1 ho2 l hs hi hm hf
    exact ⟨μ1, ω1, h1, ⟨vs, rfl, h2⟩, h3⟩
end
end
/-! Calls, and how a function's answer is shown. -/
abbrev Hp := Nat → Option AObj
inductive SMatch (H : Hp) : SV → SArg → List (Nat × AObj) → Prop
  | c (v : Value) : SMatch H (.c v) (.c v) []
  | nil {α : Type} (d : Kd α) (t : Nat) : SMatch H (.c (.slice none 0 0)) (.r d t []) []
  | r {α : Type} {d : Kd α} {t id : Nat} {xs : List α} {b : AObj} (hH : H id = some b) (h : Rdb d xs b) : SMatch H (.i id) (.r d t xs) [(id, b)]
  | s {α : Type} {d : Kd α} {t id sz lo n : Nat} {xs ys : List α} {b : AObj} (hH : H id = some b) (h : Rdb d xs b) (hsz : sz = d.sz) (hl : lo + n ≤ xs.length) (e : ys = (xs.drop lo).take n) : SMatch H (.s id sz lo n) (.r d t ys) [(id, b)]
inductive LMatch (H : Hp) : List SV → List SArg → List (Nat × AObj) → Prop
  | nil : LMatch H [] [] []
  | cons {s : SV} {x : SArg} {l : List SV} {m : List SArg} {p q : List (Nat × AObj)} (h : SMatch H s x p) (k : LMatch H l m q) : LMatch H (s :: l) (x :: m) (p ++ q)
inductive AMatch (H : Hp) : AV → Arg → List (Nat × AObj) → Prop
  | o {s : SV} {x : SArg} {p : List (Nat × AObj)} (h : SMatch H s x p) : AMatch H (.o s) (.o x) p
  | a {l : List SV} {m : List SArg} {p : List (Nat × AObj)} (h : LMatch H l m p) : AMatch H (.a l) (.a m) p
inductive AsMatch (H : Hp) : List (Nat × AV) → List Arg → List (Nat × AObj) → Prop
  | nil : AsMatch H [] [] []
  | cons {i : Nat} {s : AV} {x : Arg} {l : List (Nat × AV)} {m : List Arg} {p q : List (Nat × AObj)} (h : AMatch H s x p) (k : AsMatch H l m q) : AsMatch H ((i, s) :: l) (x :: m) (p ++ q)
def phS (H : Hp) : SV → SArg → List (Nat × AObj)
  | .i id, .r _ _ _ => match H id with
    | some b => [(id, b)]
    | none => []
  | .s id _ _ _, .r _ _ _ => match H id with
    | some b => [(id, b)]
    | none => []
  | _, _ => []
def phL (H : Hp) : List SV → List SArg → List (Nat × AObj)
  | s :: l, x :: m => phS H s x ++ phL H l m
  | _, _ => []
def phA (H : Hp) : AV → Arg → List (Nat × AObj)
  | .o s, .o x => phS H s x
  | .a l, .a m => phL H l m
  | _, _ => []
def phT (H : Hp) : List (Nat × AV) → List Arg → List (Nat × AObj)
  | (_, s) :: l, x :: m => phA H s x ++ phT H l m
  | _, _ => []
section
variable {P : Program} {X : Cx} {ops : Array Oper} {o : Oper} {l : List Oper} {σ : St} {K : List (Pre × Eff) → St → Prop} {lg : List (Nat × AV)} {μ : Mu} {ω : Om} {a : Act} {w : World} {H H1 : Hp}
theorem SMatch.of {s : SV} {x : SArg} {p : List (Nat × AObj)} (h : SMatch H s x p) (hp : ∀ q ∈ p, H1 q.1 = some q.2) : SMatch H1 s x p := by
  cases h with
  | c v => exact .c v
  | nil d t => exact .nil d t
  | r hH h => exact .r (hp _ List.mem_cons_self) h
  | s hH h hsz hl e => exact .s (hp _ List.mem_cons_self) h hsz hl e
theorem SMatch.fits {s : SV} {x : SArg} {p : List (Nat × AObj)} (h : SMatch H s x p) : ∀ q ∈ p, H q.1 = some q.2 := by
  cases h with
  | c v => exact no_mem
  | nil d t => exact no_mem
  | r hH h => exact one_mem hH
  | s hH h => exact one_mem hH
theorem LMatch.of {s : List SV} {x : List SArg} {p : List (Nat × AObj)} (h : LMatch H s x p) : (∀ q ∈ p, H1 q.1 = some q.2) → LMatch H1 s x p := by
  induction h with
  | nil => exact fun _ => .nil
  | cons h _ ih => exact fun hp => .cons (h.of (app_l hp)) (ih (app_r hp))
theorem LMatch.fits {s : List SV} {x : List SArg} {p : List (Nat × AObj)} (h : LMatch H s x p) : ∀ q ∈ p, H q.1 = some q.2 := by
  induction h with
  | nil => exact no_mem
  | cons h _ ih => exact mem_app h.fits ih
theorem AMatch.of {s : AV} {x : Arg} {p : List (Nat × AObj)} (h : AMatch H s x p) (hp : ∀ q ∈ p, H1 q.1 = some q.2) : AMatch H1 s x p := by
  cases h with
  | o h => exact .o (h.of hp)
  | a h => exact .a (h.of hp)
theorem AMatch.fits {s : AV} {x : Arg} {p : List (Nat × AObj)} (h : AMatch H s x p) : ∀ q ∈ p, H q.1 = some q.2 := by
  cases h with
  | o h => exact h.fits
  | a h => exact h.fits
theorem AsMatch.of {s : List (Nat × AV)} {x : List Arg} {p : List (Nat × AObj)} (h : AsMatch H s x p) : (∀ q ∈ p, H1 q.1 = some q.2) → AsMatch H1 s x p := by
  induction h with
  | nil => exact fun _ => .nil
  | cons h _ ih => exact fun hp => .cons (h.of (app_l hp)) (ih (app_r hp))
theorem AsMatch.fits {s : List (Nat × AV)} {x : List Arg} {p : List (Nat × AObj)} (h : AsMatch H s x p) : ∀ q ∈ p, H q.1 = some q.2 := by
  induction h with
  | nil => exact no_mem
  | cons h _ ih => exact mem_app h.fits ih
theorem C_sub {α : Type} {d : Kd α} {A : Option Addr} {N lo n c : Nat} {xs : List α} (h : d.C w A N xs) (hl : lo + n ≤ xs.length) (hlc : lo + n ≤ c) {A' : Option Addr} (hA' : lo = 0 ∨ lo < c → A' = A.map (·.add (lo * d.sz))) : d.C w A' n ((xs.drop lo).take n) := by
  have hA : 0 < n → ∃ B, A = some B ∧ A' = some (B.add (lo * d.sz)) := fun hn => by
    obtain ⟨ad, e, _⟩ := h.2.2 (by have := h.1; omega)
    subst e
    exact ⟨ad, rfl, hA' (.inr (by omega))⟩
  have hlen : ((xs.drop lo).take n).length = n := by rw [List.length_take, List.length_drop]; omega
  refine ⟨hlen, by have := h.1; have := h.2.1; omega, fun hn => ?_⟩
  obtain ⟨B, rfl, rfl⟩ := hA hn
  obtain ⟨ad, e, hc⟩ := h.2.2 (by have := h.1; omega)
  cases e
  refine ⟨_, rfl, fun j p hj => ?_⟩
  have hjn : j < n := by have := (List.getElem?_eq_some_iff.1 hj).1; omega
  rw [List.getElem?_take_of_lt hjn, List.getElem?_drop] at hj
  obtain ⟨c, h1, h2, h3⟩ := hc _ p hj
  refine ⟨c, h1, h2, fun i u hi => ?_⟩
  have := h3 i u hi
  have e : (B.add (lo * d.sz)).add (j * d.sz + i) = B.add ((lo + j) * d.sz + i) := by
    rw [Nat.add_mul, Nat.add_assoc]
    generalize lo * d.sz = p
    generalize j * d.sz + i = q
    unfold Addr.add
    by_cases hp : p = 0
    · subst hp; simp
    · by_cases hq : q = 0
      · subst hq; simp [hp]
      · simp [hp, hq, Nat.add_assoc]
  rw [e]
  exact this
theorem SMatch.ok {s : SV} {x : SArg} {p : List (Nat × AObj)} {v : Value} (hs : Sat X σ μ ω a w) (h : SMatch σ.H s x p) (hc : s.con μ v) : x.ok w v := by
  cases h with
  | c u => exact hc
  | nil d t => rw [show v = _ from hc]; exact ⟨none, 0, rfl, Nat.le_refl _, Kd.C_nil d w⟩
  | r hH h =>
    obtain ⟨A, c, hm, hl, hC⟩ := h.get hs hH
    have := hc.1
    rw [hm] at this
    injection this with this
    exact ⟨A, c, this.symm, hl, hC⟩
  | s hH h hsz hl e =>
    subst hsz
    subst e
    obtain ⟨A, c, hm, hlc, hC⟩ := h.get hs hH
    obtain ⟨A0, N, c0, hm0, hle, A', rfl, hA⟩ := hc
    rw [hm] at hm0
    cases hm0
    have hC2 := C_sub hC hl hle hA
    have e2 := hC2.1
    exact ⟨A', _, by rw [e2], by rw [e2]; omega, by rw [e2]; exact hC2⟩
theorem LMatch.ok {s : List SV} {x : List SArg} {p : List (Nat × AObj)} (hs : Sat X σ μ ω a w) (h : LMatch σ.H s x p) : ∀ {vs : List Value}, conL μ s vs → okL w x vs := by
  induction h with
  | nil => intro vs hc; cases vs with
    | nil => trivial
    | cons => exact hc.elim
  | cons h _ ih => intro vs hc; cases vs with
    | nil => exact hc.elim
    | cons => exact ⟨h.ok hs hc.1, ih hc.2⟩
theorem AMatch.ok {s : AV} {x : Arg} {p : List (Nat × AObj)} {v : Value} (hs : Sat X σ μ ω a w) (h : AMatch σ.H s x p) (hc : s.con μ v) : x.ok w v := by
  cases h with
  | o h => exact h.ok hs hc
  | a h => obtain ⟨vs, e, hc⟩ := hc; exact ⟨vs, e, h.ok hs hc⟩
theorem AsMatch.ok {s : List (Nat × AV)} {x : List Arg} {p : List (Nat × AObj)} (hs : Sat X σ μ ω a w) (h : AsMatch σ.H s x p) : ∀ {vs : List (Nat × Value)}, conP μ s vs → okA w x (vs.map (·.2)) := by
  induction h with
  | nil => intro vs hc; cases vs with
    | nil => trivial
    | cons => exact hc.elim
  | cons h _ ih => intro vs hc; cases vs with
    | nil => exact hc.elim
    | cons v vs => obtain ⟨j, v⟩ := v; exact ⟨h.ok hs hc.2.1, ih hc.2.2⟩
def numL {α : Type} : List α → List (Nat × α)
  | [] => []
  | x :: l => (0, x) :: numL l
theorem numL_map {α β : Type} (f : α → β) : ∀ l : List α, ((numL l).map fun q => (q.1, f q.2)).map (·.2) = l.map f
  | [] => rfl
  | x :: l => by simp [numL, numL_map f l]
def rngL : Nat → Nat → List Nat
  | _, 0 => []
  | n, k + 1 => n :: rngL (n + 1) k
theorem rngL_mem : ∀ {n k j : Nat}, n ≤ j → j < n + k → j ∈ rngL n k
  | n, 0, j, h1, h2 => by omega
  | n, k + 1, j, h1, h2 => by
    by_cases e : j = n
    · subst e; exact List.mem_cons_self
    · exact List.mem_cons_of_mem _ (rngL_mem (by omega) (by omega))
theorem nw_free {n : Nat} {r : Res} {D : Nat → Bool} (h : (rngL n r.cnt).all (fun k => !D k) = true) : ∀ k, n ≤ k → k < n + r.cnt → D k = false := fun k h1 h2 => by
  have := List.all_eq_true.1 h k (rngL_mem h1 h2)
  simpa using this
theorem keys_objsL : ∀ (l : List SArg) (n : Nat), (trueL (objsL n l)).map (·.1) = rngL n (cntL l)
  | [], _ => rfl
  | .c v :: l, n => by simpa [objsL, SArg.objs, cntL, SArg.cnt] using keys_objsL l n
  | .r d t xs :: l, n => by
    have := keys_objsL l (n + 1)
    simpa [objsL, SArg.objs, cntL, SArg.cnt, trueL, Nat.add_comm 1, rngL] using this
theorem rngL_app : ∀ (n k m : Nat), rngL n (k + m) = rngL n k ++ rngL (n + k) m
  | n, 0, m => by simp [rngL]
  | n, k + 1, m => by
    rw [Nat.succ_add, rngL, rngL, List.cons_append, rngL_app (n + 1) k m]
    congr 3
    omega
theorem keys_objs : ∀ (x : Arg) (n : Nat), (trueL (x.objs n)).map (·.1) = rngL n x.cnt
  | .o (.c v), n => rfl
  | .o (.r d t xs), n => rfl
  | .a l, n => keys_objsL l n
theorem keys_objsA : ∀ (l : List Arg) (n : Nat), (trueL (objsA n l)).map (·.1) = rngL n (cntA l)
  | [], _ => rfl
  | x :: l, n => by rw [objsA, trueL_app, List.map_append, keys_objs, keys_objsA l, cntA, rngL_app]
theorem keys_res (r : Res) (n : Nat) : (trueL (r.objs n)).map (·.1) = rngL n r.cnt := by
  cases r with
  | one x => exact keys_objs x n
  | many l => exact keys_objsA l n
section
variable (hgo : GOn ops σ o lg) (hd : dstOk o.dst σ.n = true)
include hgo hd
/-- A call of a function whose answer is told. -/
theorem Lx.call {f : FuncId} {fn : Func} {xs : List Operand} {ts : Array TypeId} {avs : List (Nat × AV)} {args : List Arg} {r : Res} {ph : List (Nat × AObj)} (n : Nat) (hc : FnR P f args r) (ho : o.op = .call { callee := .value (.func f), args := xs.toArray, argTypes := ts })
    (hf : P.funcs[f]? = some fn) (hname : (fn.name == "runtime.NumGoroutine") = false) (hb : fn.body.isSome = true) (hx : opndL σ.F (numL xs) = some avs) (hm : AsMatch σ.H avs args ph) (hnew : (rngL n r.cnt).all (fun k => !σ.D k) = true)
    (h : LX P X ops l (σ.app o.dst ⟨r.av n, someL (r.objs n), trueL (r.objs n)⟩) (fun C => K ((⟨lg ++ lookL (numL xs) avs, ph⟩, ⟨r.av n, someL (r.objs n), trueL (r.objs n)⟩) :: C))) : LX P X ops (o :: l) σ K :=
  Lx.run (h := h) (e := ⟨r.av n, someL (r.objs n), trueL (r.objs n)⟩) hgo.1 hgo.2 (lookL_fits hx) hm.fits (fun q hq => by
      have hk : q.1 ∈ rngL n r.cnt := by rw [← keys_res]; exact List.mem_map_of_mem hq
      have := List.all_eq_true.1 hnew _ hk
      simpa using this) (fun σ1 hn1 h1 h2 h3 μ ω a w hs1 K Q hK => by
    have hargs := (hm.of h2).ok hs1 (hs1.evL (opndL_of hx h1))
    rw [numL_map] at hargs
    have he := PrintLast.enters_ hf hname hb (xs.map a.eval).toArray w
    have hrun : (execOp a.eval o).run P w = .ok (.enter f (xs.map a.eval).toArray) w := by
      unfold execOp
      simp [ho, resolve, Deferred.ofValue, invoke, Act.eval]
      simpa [Act.eval] using he
    unfold Oper.wp
    rw [hrun]
    refine (hc w _ hargs).mono (fun e w' hr => ?_)
    obtain ⟨v, rfl, ⟨ow, ho1, ho2, hmade⟩, hbel⟩ := hr
    have hs2 : Sat X σ1 μ ω a w' := hs1.drew (Kp.of_below hbel _)
    obtain ⟨μ2, ω2, _, hcon, hs3⟩ := Res.add (b := w.heap.size) (ow := ow) (fun j k hk => .inr (Nat.le_trans hs1.kept.size (ho1 j k hk).1)) ho1 ho2 (n := n) hs2 (fun id oo hid k hk => .inl (hs1.own id oo hid k hk).2) hmade (fun k hk1 hk2 => by
      have hk : k ∈ (trueL (r.objs n)).map (·.1) := by rw [keys_res]; exact rngL_mem hk1 hk2
      obtain ⟨q, hq, e⟩ := List.mem_map.1 hk
      rw [← e]
      exact h3 q hq)
    exact hK _ _ _ _ (hs3.put (dstOk_spec (hn1 ▸ hd)) hcon))
end
/-! ### entering -/
def SArg.ros (n : Nat) : SArg → List (Nat × AObj)
  | .c _ => []
  | .r d _ xs => [(n, .ro d xs)]
def rosL : Nat → List SArg → List (Nat × AObj)
  | _, [] => []
  | n, s :: l => s.ros n ++ rosL (n + s.cnt) l
def Arg.ros (n : Nat) : Arg → List (Nat × AObj)
  | .o s => s.ros n
  | .a l => rosL n l
def rosA : Nat → List Arg → List (Nat × AObj)
  | _, [] => []
  | n, s :: l => s.ros n ++ rosA (n + s.cnt) l
def avA : Nat → Nat → List Arg → List (Nat × AV)
  | _, _, [] => []
  | i, n, s :: l => (i, s.av n) :: avA (i + 1) (n + s.cnt) l
def No_ : Nat → Prop := fun _ => False
theorem SArg.ros_lt (s : SArg) (n : Nat) : ∀ q ∈ s.ros n, q.1 < n + s.cnt := by
  cases s with
  | c v => intro q hq; cases hq
  | r d t xs => intro q hq; rw [SArg.ros, List.mem_singleton] at hq; subst hq; simp [SArg.cnt]
theorem rosL_lt : ∀ (l : List SArg) (n : Nat), ∀ q ∈ rosL n l, q.1 < n + cntL l
  | [], _, q, hq => by cases hq
  | s :: l, n, q, hq => by
    rcases List.mem_append.1 hq with hq | hq
    · have := SArg.ros_lt s n q hq; simp [cntL]; omega
    · have := rosL_lt l _ q hq; simp [cntL]; omega
theorem Arg.ros_lt (s : Arg) (n : Nat) : ∀ q ∈ s.ros n, q.1 < n + s.cnt := by
  cases s with
  | o s => exact SArg.ros_lt s n
  | a l => exact rosL_lt l n
theorem SArg.come {s : SArg} {v : Value} {n : Nat} (hS : X.S = No_) (hX : X.w0 = w) (hs : Sat X σ μ ω a w) (hm : s.ok w v) (hf : freeD σ n s.cnt) : ∃ μ1 ω1, Le μ μ1 ∧ (s.av n).con μ1 v ∧ Sat X (σ.adds (s.ros n)) μ1 ω1 a w := by
  cases s with
  | c u => exact ⟨μ, ω, Le.refl _, hm, hs⟩
  | r d t xs =>
    obtain ⟨A, c, rfl, hl, hC⟩ := hm
    have hid : σ.D n = false := hf n (Nat.le_refl _) (by simp [SArg.cnt])
    exact ⟨upd μ n (some _), upd ω n No_, Up_upd (hs.made n hid), ⟨upd_same _ _ _, rfl⟩, hs.add hid ⟨fun _ h => h, A, c, rfl, hl, fun W hk => Kd.C_below hC (by rw [hX] at hk; exact hk.to_below (fun k h => by rw [hS] at h; exact h))⟩ (fun k hk => hk.elim) (fun _ _ _ _ _ hk => hk.elim)⟩
theorem comeL (hS : X.S = No_) (hX : X.w0 = w) : ∀ (l : List SArg) {vs : List Value} {n : Nat} {σ : St} {μ : Mu} {ω : Om}, Sat X σ μ ω a w → okL w l vs → freeD σ n (cntL l) → ∃ μ1 ω1, Le μ μ1 ∧ conL μ1 (avL n l) vs ∧ Sat X (σ.adds (rosL n l)) μ1 ω1 a w
  | [], [], n, σ, μ, ω, hs, _, _ => ⟨μ, ω, Le.refl _, trivial, hs⟩
  | s :: l, v :: vs, n, σ, μ, ω, hs, hm, hf => by
    obtain ⟨μ1, ω1, h1, h2, h3⟩ := SArg.come (n := n) hS hX hs hm.1 (fun k hk1 hk2 => hf k hk1 (by simp [cntL]; omega))
    obtain ⟨μ2, ω2, k1, k2, k3⟩ := comeL hS hX l h3 hm.2 (freeD.adds (c := s.cnt) (by simpa [cntL] using hf) (SArg.ros_lt s n))
    exact ⟨μ2, ω2, fun id v hv => k1 _ _ (h1 _ _ hv), ⟨SV.con_mono k1 h2, k2⟩, by rw [rosL, St.adds_app]; exact k3⟩
  | [], _ :: _, _, _, _, _, _, hm, _ => hm.elim
  | _ :: _, [], _, _, _, _, _, hm, _ => hm.elim
theorem Arg.come {s : Arg} {v : Value} {n : Nat} (hS : X.S = No_) (hX : X.w0 = w) (hs : Sat X σ μ ω a w) (hm : s.ok w v) (hf : freeD σ n s.cnt) : ∃ μ1 ω1, Le μ μ1 ∧ (s.av n).con μ1 v ∧ Sat X (σ.adds (s.ros n)) μ1 ω1 a w := by
  cases s with
  | o s => exact SArg.come hS hX hs hm hf
  | a l =>
    obtain ⟨vs, rfl, hm⟩ := hm
    obtain ⟨μ1, ω1, h1, h2, h3⟩ := comeL hS hX l hs hm hf
    exact ⟨μ1, ω1, h1, ⟨vs, rfl, h2⟩, h3⟩
def conS (μ : Mu) : Nat → List (Nat × AV) → List Value → Prop
  | _, [], [] => True
  | i, (j, av) :: l, v :: r => j = i ∧ av.con μ v ∧ conS μ (i + 1) l r
  | _, _, _ => False
theorem comeA (hS : X.S = No_) (hX : X.w0 = w) : ∀ (l : List Arg) {vs : List Value} {i n : Nat} {σ : St} {μ : Mu} {ω : Om}, Sat X σ μ ω a w → okA w l vs → freeD σ n (cntA l) → ∃ μ1 ω1, Le μ μ1 ∧ conS μ1 i (avA i n l) vs ∧ Sat X (σ.adds (rosA n l)) μ1 ω1 a w
  | [], [], i, n, σ, μ, ω, hs, _, _ => ⟨μ, ω, Le.refl _, trivial, hs⟩
  | s :: l, v :: vs, i, n, σ, μ, ω, hs, hm, hf => by
    obtain ⟨μ1, ω1, h1, h2, h3⟩ := Arg.come (n := n) hS hX hs hm.1 (fun k hk1 hk2 => hf k hk1 (by simp [cntA]; omega))
    obtain ⟨μ2, ω2, k1, k2, k3⟩ := comeA hS hX l (i := i + 1) h3 hm.2 (freeD.adds (c := s.cnt) (by simpa [cntA] using hf) (Arg.ros_lt s n))
    exact ⟨μ2, ω2, fun id v hv => k1 _ _ (h1 _ _ hv), ⟨rfl, AV.con_mono k1 h2, k2⟩, by rw [rosA, St.adds_app]; exact k3⟩
  | [], _ :: _, _, _, _, _, _, _, hm, _ => hm.elim
  | _ :: _, [], _, _, _, _, _, _, hm, _ => hm.elim
theorem conS_get {μ : Mu} : ∀ {l : List (Nat × AV)} {vs : List Value} {i : Nat}, conS μ i l vs → ∀ {t : Nat} {av : AV}, (t, av) ∈ l → ∃ v, i ≤ t ∧ vs[t - i]? = some v ∧ av.con μ v
  | (j, av) :: l, v :: r, i, h, t, av', hm => by
    obtain ⟨e, h1, h2⟩ := h
    subst e
    rcases List.mem_cons.1 hm with e | hm
    · cases e; exact ⟨v, Nat.le_refl _, by simp, h1⟩
    · obtain ⟨u, hle, hu, hc⟩ := conS_get h2 hm
      refine ⟨u, by omega, ?_, hc⟩
      rw [show t - j = (t - (j + 1)) + 1 by omega]
      simpa using hu
theorem okA_len : ∀ {l : List Arg} {vs : List Value}, okA w l vs → vs.length = l.length
  | [], [], _ => rfl
  | _ :: _, _ :: _, h => by simp [okA_len h.2]
  | [], _ :: _, h => h.elim
  | _ :: _, [], h => h.elim
/-- The state at a function's start. -/
def St.enter (n : Nat) (args : List Arg) : St := { F := assoc (avA 0 1000 args), H := updL (fun _ => none) (someL (rosA 1000 args)), D := updL (fun _ => false) (trueL (rosA 1000 args)), n := n }
theorem enter_sat {args : List Arg} {vs : List Value} {n m : Nat} (hn : args.length + m = n) (h : okA w args vs) : ∃ μ ω, Sat ⟨w, No_, []⟩ (St.enter n args) μ ω { tmps := vs.toArray ++ Array.replicate m undef, defers := [] } w := by
  have h0 : Sat ⟨w, No_, []⟩ { F := fun _ => none, H := fun _ => none, D := fun _ => false, n := n } (fun _ => none) (fun _ => No_) { tmps := vs.toArray ++ Array.replicate m undef, defers := [] } w :=
    { kept := Kp.refl _ _, size := by simp [okA_len h, hn], defers := rfl, slot := fun _ _ h => (by cases h), made := fun _ _ => rfl, obj := fun _ _ h => (by cases h), own := fun _ _ h => (by cases h), sep := fun _ _ _ _ h => (by cases h), anc := fun _ h => (by cases h) }
  obtain ⟨μ, ω, _, hc, hs⟩ := comeA (n := 1000) (i := 0) rfl rfl args h0 h (fun _ _ _ => rfl)
  refine ⟨μ, ω, hs.kept, hs.size, hs.defers, fun t av ht => ?_, hs.made, hs.obj, hs.own, hs.sep, hs.anc⟩
  obtain ⟨v, _, hv, hcv⟩ := conS_get hc (assoc_mem ht)
  have hlt : t < vs.length := (List.getElem?_eq_some_iff.1 (by simpa using hv)).1
  exact ⟨v, by rw [Array.getElem?_append_left (by simpa using hlt)]; simpa using hv, hcv⟩
/-! ### leaving -/
def resG (tmps : Array Value) : ResultVar → Sem Value
  | .tmp t => pure (tmps.getD t undef)
  | .cell p t => do loadVar t (← asAddr (tmps.getD p undef))
theorem results_eq (fn : Func) (tmps : Array Value) : results fn tmps = (do let vs ← fn.results.mapM (resG tmps); pure (if h : vs.size = 1 then vs[0] else .tuple vs)) := by
  unfold results
  congr 1
def Item (P : Program) (σ : St) (r : ResultVar) (av : AV) : Prop := ∀ X μ ω a w, Sat X σ μ ω a w → ∃ v, (resG a.tmps r).run P w = .ok v w ∧ av.con μ v
theorem item_tmp {t : Nat} {av : AV} (h : σ.F t = some av) : Item P σ (.tmp t) av := fun X μ ω a w hs => by
  obtain ⟨v, hv, hc⟩ := hs.slot t av h
  exact ⟨v, by simp [resG, hv], hc⟩
theorem item_cellA {p t id T : Nat} {cs : List SV} (h : σ.F p = some (.o (.p id 0))) (hH : σ.H id = some (.box T cs)) (ht : aggT P t cs.length = true) : Item P σ (.cell p t) (.a cs) := fun X μ ω a w hs => by
  obtain ⟨v, hv, g0, hm0, e⟩ := hs.slot p _ h
  obtain ⟨g, vs, hm, _, hb, hc, _⟩ := hs.box hH
  rw [hm] at hm0
  cases hm0
  subst e
  refine ⟨.agg vs, ?_, vs.toList, by simp, hc⟩
  have := load_agg (P := P) (w := w) (t := t) (p := ⟨g0, 0, none⟩) (vs := vs.toList) (by rw [conL_len hc]; exact ht) (fun j v hj => by
    rw [add_plain, Nat.zero_add, blk_cell hb]
    simpa using hj)
  simpa [resG, hv, asAddr, Instr.loadAt, Instr.sureAddr] using this
theorem item_cell1 {p t id T : Nat} {s : SV} (h : σ.F p = some (.o (.p id 0))) (hH : σ.H id = some (.box T [s])) (ht : plainT P t = true) : Item P σ (.cell p t) (.o s) := fun X μ ω a w hs => by
  obtain ⟨v, hv, g0, hm0, e⟩ := hs.slot p _ h
  obtain ⟨g, vs, hm, _, hb, hc, _⟩ := hs.box hH
  rw [hm] at hm0
  cases hm0
  subst e
  obtain ⟨u, hu, hcu⟩ := conL_get hc (k := 0) rfl
  refine ⟨u, ?_, hcu⟩
  have := load_one (P := P) (w := w) (t := t) (p := ⟨g0, 0, none⟩) ht ((blk_cell hb 0).trans (by simpa using hu))
  simpa [resG, hv, asAddr, Instr.loadAt, Instr.sureAddr] using this
/-- What is handed back: which object each row is. -/
inductive SOut (H : Hp) : SV → SArg → List (Option Nat) → Prop
  | c {v u : Value} (e : v = u) : SOut H (.c v) (.c u) []
  | nil {α : Type} (d : Kd α) (t : Nat) {xs : List α} (e : [] = xs) : SOut H (.c (.slice none 0 0)) (.r d t xs) [none]
  | r {α : Type} {d : Kd α} {t id : Nat} {xs ys : List α} (hH : H id = some (.row d t xs)) (e : xs = ys) : SOut H (.i id) (.r d t ys) [some id]
inductive LOut (H : Hp) : List SV → List SArg → List (Option Nat) → Prop
  | nil : LOut H [] [] []
  | cons {s : SV} {x : SArg} {l : List SV} {m : List SArg} {p q : List (Option Nat)} (h : SOut H s x p) (k : LOut H l m q) : LOut H (s :: l) (x :: m) (p ++ q)
inductive AOut (H : Hp) : AV → Arg → List (Option Nat) → Prop
  | o {s : SV} {x : SArg} {p : List (Option Nat)} (h : SOut H s x p) : AOut H (.o s) (.o x) p
  | a {l : List SV} {m : List SArg} {p : List (Option Nat)} (h : LOut H l m p) : AOut H (.a l) (.a m) p
inductive TOut (H : Hp) : List AV → List Arg → List (Option Nat) → Prop
  | nil : TOut H [] [] []
  | cons {s : AV} {x : Arg} {l : List AV} {m : List Arg} {p q : List (Option Nat)} (h : AOut H s x p) (k : TOut H l m q) : TOut H (s :: l) (x :: m) (p ++ q)
def nmS : SV → SArg → List (Option Nat)
  | _, .c _ => []
  | .i id, .r _ _ _ => [some id]
  | _, .r _ _ _ => [none]
def nmL : List SV → List SArg → List (Option Nat)
  | s :: l, x :: m => nmS s x ++ nmL l m
  | _, _ => []
def nmA : AV → Arg → List (Option Nat)
  | .o s, .o x => nmS s x
  | .a l, .a m => nmL l m
  | _, _ => []
def nmT : List AV → List Arg → List (Option Nat)
  | s :: l, x :: m => nmA s x ++ nmT l m
  | _, _ => []
/-- Each name once. -/
def onceB : List (Option Nat) → Bool
  | [] => true
  | none :: l => onceB l
  | some k :: l => l.all (fun x => match x with | some j => !Nat.beq j k | none => true) && onceB l
def owOf (ω : Om) (l : List (Option Nat)) : Om := fun j k => match l[j]? with
  | some (some id) => ω id k
  | _ => False
theorem SOut.cnt {s : SV} {x : SArg} {p : List (Option Nat)} (h : SOut H s x p) : p.length = x.cnt := by cases h <;> rfl
theorem LOut.cnt {s : List SV} {x : List SArg} {p : List (Option Nat)} (h : LOut H s x p) : p.length = cntL x := by
  induction h with
  | nil => rfl
  | cons h _ ih => rw [List.length_append, h.cnt, ih, cntL]
theorem AOut.cnt {s : AV} {x : Arg} {p : List (Option Nat)} (h : AOut H s x p) : p.length = x.cnt := by
  cases h with
  | o h => exact h.cnt
  | a h => exact h.cnt
theorem SOut.made {s : SV} {x : SArg} {p q r : List (Option Nat)} {v : Value} (hs : Sat X σ μ ω a w) (h : SOut σ.H s x p) (hc : s.con μ v) : x.made w (owOf ω (r ++ p ++ q)) r.length v := by
  cases h with
  | c e => exact e ▸ hc
  | nil d t e => subst e; rw [show v = _ from hc]; exact ⟨0, Kd.S_nil d _ _ _ _⟩
  | @r _ d t id xs ys hH e =>
    subst e
    obtain ⟨u, hu, B, hR⟩ := hs.obj id _ hH
    have := hc.1
    rw [hu] at this
    injection this with this
    subst this
    exact ⟨B, Kd.S_mono hR (fun k hk => by simpa [owOf] using hk)⟩
theorem LOut.made {s : List SV} {x : List SArg} {p : List (Option Nat)} (hs : Sat X σ μ ω a w) (h : LOut σ.H s x p) : ∀ {vs : List Value} (r q : List (Option Nat)), conL μ s vs → madeL w (owOf ω (r ++ p ++ q)) r.length x vs := by
  induction h with
  | nil => intro vs r q hc; cases vs with
    | nil => trivial
    | cons => exact hc.elim
  | @cons s x l m p1 p2 h _ ih => intro vs r q hc; cases vs with
    | nil => exact hc.elim
    | cons v vs =>
      refine ⟨by have := h.made (r := r) (q := p2 ++ q) hs hc.1; simpa using this, ?_⟩
      have := ih (r ++ p1) q hc.2
      rw [List.length_append, h.cnt] at this
      simpa using this
theorem AOut.made {s : AV} {x : Arg} {p : List (Option Nat)} (hs : Sat X σ μ ω a w) (h : AOut σ.H s x p) {v : Value} (r q : List (Option Nat)) (hc : s.con μ v) : x.made w (owOf ω (r ++ p ++ q)) r.length v := by
  cases h with
  | o h => exact h.made hs hc
  | a h => obtain ⟨vs, e, hc⟩ := hc; exact ⟨vs, e, h.made hs r q hc⟩
def conV (μ : Mu) : List AV → List Value → Prop
  | [], [] => True
  | s :: l, v :: vs => s.con μ v ∧ conV μ l vs
  | _, _ => False
theorem TOut.made {s : List AV} {x : List Arg} {p : List (Option Nat)} (hs : Sat X σ μ ω a w) (h : TOut σ.H s x p) : ∀ {vs : List Value} (r q : List (Option Nat)), conV μ s vs → madeA w (owOf ω (r ++ p ++ q)) r.length x vs := by
  induction h with
  | nil => intro vs r q hc; cases vs with
    | nil => trivial
    | cons => exact hc.elim
  | @cons s x l m p1 p2 h _ ih => intro vs r q hc; cases vs with
    | nil => exact hc.elim
    | cons v vs =>
      refine ⟨by have := h.made hs r (p2 ++ q) hc.1; simpa using this, ?_⟩
      have := ih (r ++ p1) q hc.2
      rw [List.length_append, h.cnt] at this
      simpa using this
theorem onceB_spec : ∀ {l : List (Option Nat)}, onceB l = true → ∀ (i j id : Nat), l[i]? = some (some id) → l[j]? = some (some id) → i = j
  | none :: l, h, i, j, id, hi, hj => by
    cases i with
    | zero => simp at hi
    | succ i => cases j with
      | zero => simp at hj
      | succ j => rw [onceB_spec (l := l) h i j id (by simpa using hi) (by simpa using hj)]
  | some k :: l, h, i, j, id, hi, hj => by
    simp only [onceB, Bool.and_eq_true, List.all_eq_true] at h
    cases i with
    | zero => cases j with
      | zero => rfl
      | succ j =>
        simp at hi hj
        have := h.1 _ (List.mem_of_getElem? hj)
        simp [hi] at this
    | succ i => cases j with
      | zero =>
        simp at hi hj
        have := h.1 _ (List.mem_of_getElem? hi)
        simp [hj] at this
      | succ j => rw [onceB_spec (l := l) h.2 i j id (by simpa using hi) (by simpa using hj)]
  | [], _, _, _, _, hi, _ => by simp at hi
theorem TOut.names {s : List AV} {x : List Arg} {p : List (Option Nat)} (h : TOut H s x p) : ∀ id, some id ∈ p → ∃ o, H id = some o := by
  have hS : ∀ {s : SV} {x : SArg} {p : List (Option Nat)}, SOut H s x p → ∀ id, some id ∈ p → ∃ o, H id = some o := by
    intro s x p h id hid
    cases h with
    | c e => cases hid
    | nil d t e => simp at hid
    | r hH e => simp at hid; subst hid; exact ⟨_, hH⟩
  have hL : ∀ {s : List SV} {x : List SArg} {p : List (Option Nat)}, LOut H s x p → ∀ id, some id ∈ p → ∃ o, H id = some o := by
    intro s x p h
    induction h with
    | nil => intro id hid; cases hid
    | cons h _ ih => intro id hid; exact (List.mem_append.1 hid).elim (hS h id) (ih id)
  induction h with
  | nil => intro id hid; cases hid
  | cons h _ ih =>
    intro id hid
    refine (List.mem_append.1 hid).elim (fun hid => ?_) (ih id)
    cases h with
    | o h => exact hS h id hid
    | a h => exact hL h id hid
theorem made_ow {p : List (Option Nat)} (hs : Sat ⟨X.w0, No_, []⟩ σ μ ω a w) (hn : ∀ id, some id ∈ p → ∃ o, σ.H id = some o) (h1 : onceB p = true) : (∀ j k, owOf ω p j k → X.w0.heap.size ≤ k ∧ k < w.heap.size) ∧ (∀ i j, i ≠ j → ∀ k, owOf ω p i k → ¬ owOf ω p j k) := by
  have get : ∀ j k, owOf ω p j k → ∃ id, p[j]? = some (some id) ∧ ω id k := by
    intro j k hk
    unfold owOf at hk
    cases hp : p[j]? with
    | none => rw [hp] at hk; exact hk.elim
    | some x => cases x with
      | none => rw [hp] at hk; exact hk.elim
      | some id => rw [hp] at hk; exact ⟨id, rfl, hk⟩
  refine ⟨fun j k hk => ?_, fun i j hij k hi hj => ?_⟩
  · obtain ⟨id, hid, hk⟩ := get j k hk
    obtain ⟨o, ho⟩ := hn id (List.mem_of_getElem? hid)
    have := hs.own id o ho k hk
    exact ⟨this.1.elim (fun h => h.elim) (fun h => h), this.2⟩
  · obtain ⟨id, hid, hk⟩ := get i k hi
    obtain ⟨id', hid', hk'⟩ := get j k hj
    obtain ⟨o, ho⟩ := hn id (List.mem_of_getElem? hid)
    obtain ⟨o', ho'⟩ := hn id' (List.mem_of_getElem? hid')
    by_cases e : id = id'
    · subst e; exact hij (onceB_spec h1 i j id hid hid')
    · exact hs.sep id id' o o' ho ho' e k hk hk'
def Answers (w : World) (r : Res) (e : Ending) (w' : World) : Prop := ∃ v, e = .returned v ∧ Made w.heap.size w' r v ∧ Below w.heap.size w w'
theorem fnR_of_ax {f : FuncId} {fn : Func} {c : Code} {args : List Arg} {r : Res} {n : Nat} (hf : P.funcs[f]? = some fn) (hb : fn.body = some c) (hnt : fn.ntmps = n) (hle : Nat.ble args.length n = true) (h : ∀ w, AX P ⟨w, No_, []⟩ c (St.enter n args) (Ends P ⟨w, No_, []⟩ fn (Answers w r))) : FnR P f args r := fun w vs hok => by
  have hn : args.length + (fn.ntmps - args.length) = n := by rw [hnt]; have := Nat.le_of_ble_eq_true hle; omega
  obtain ⟨μ, ω, hs⟩ := enter_sat (w := w) hn hok
  refine calls_of_ax (S := No_) (σ := St.enter n args) (μ := μ) (ω := ω) hf hb ?_ (h w)
  rw [← okA_len hok] at hs
  simpa using hs
theorem Sat.answers {w0 w : World} {p : List (Option Nat)} {av : AV} {v : Value} {r : Res} (hs : Sat ⟨w0, No_, []⟩ σ μ ω a w) (hn : ∀ id, some id ∈ p → ∃ o, σ.H id = some o) (h1 : onceB p = true) (hm : r.made w (owOf ω p) v) : Answers w0 r (.returned v) w :=
  ⟨v, rfl, ⟨owOf ω p, (made_ow (X := ⟨w0, No_, []⟩) hs hn h1).1, (made_ow (X := ⟨w0, No_, []⟩) hs hn h1).2, hm⟩, hs.kept.to_below (fun _ h => h)⟩
theorem ends_res1 {fn : Func} {w0 : World} {r : ResultVar} {av : AV} {x : Arg} (hr : fn.results = #[r]) (hi : Item P σ r av) (ho : AOut σ.H av x (nmA av x)) (h1 : onceB (nmA av x) = true) : Ends P ⟨w0, No_, []⟩ fn (Answers w0 (.one x)) .ret σ := fun μ ω a w hs => by
  obtain ⟨v, hv, hc⟩ := hi _ μ ω a w hs
  refine ⟨v, ?_, hs.answers (av := av) (p := nmA av x) ?_ h1 ?_⟩
  · simp [results_eq, hr, Array.mapM_eq_mapM_toList, hv]
  · have := (TOut.cons ho .nil).names
    simpa using this
  · have := ho.made hs [] [] hc
    have h2 : Arg.made w (owOf ω (nmA av x)) 0 x v := by simpa using this
    exact h2
theorem ends_res2 {fn : Func} {w0 : World} {r1 r2 : ResultVar} {av1 av2 : AV} {x1 x2 : Arg} (hr : fn.results = #[r1, r2]) (hi1 : Item P σ r1 av1) (hi2 : Item P σ r2 av2) (ho : TOut σ.H [av1, av2] [x1, x2] (nmT [av1, av2] [x1, x2])) (h1 : onceB (nmT [av1, av2] [x1, x2]) = true) : Ends P ⟨w0, No_, []⟩ fn (Answers w0 (.many [x1, x2])) .ret σ := fun μ ω a w hs => by
  obtain ⟨v1, hv1, hc1⟩ := hi1 _ μ ω a w hs
  obtain ⟨v2, hv2, hc2⟩ := hi2 _ μ ω a w hs
  refine ⟨.tuple #[v1, v2], ?_, hs.answers (av := .x) ho.names h1 ⟨[v1, v2], rfl, ?_⟩⟩
  · simp [results_eq, hr, Array.mapM_eq_mapM_toList, hv1, hv2]
  · have := ho.made hs (vs := [v1, v2]) [] [] ⟨hc1, hc2, trivial⟩
    simpa using this
theorem ends_res3 {fn : Func} {w0 : World} {r1 r2 r3 : ResultVar} {av1 av2 av3 : AV} {x1 x2 x3 : Arg} (hr : fn.results = #[r1, r2, r3]) (hi1 : Item P σ r1 av1) (hi2 : Item P σ r2 av2) (hi3 : Item P σ r3 av3) (ho : TOut σ.H [av1, av2, av3] [x1, x2, x3] (nmT [av1, av2, av3] [x1, x2, x3])) (h1 : onceB (nmT [av1, av2, av3] [x1, x2, x3]) = true) : Ends P ⟨w0, No_, []⟩ fn (Answers w0 (.many [x1, x2, x3])) .ret σ := fun μ ω a w hs => by
  obtain ⟨v1, hv1, hc1⟩ := hi1 _ μ ω a w hs
  obtain ⟨v2, hv2, hc2⟩ := hi2 _ μ ω a w hs
  obtain ⟨v3, hv3, hc3⟩ := hi3 _ μ ω a w hs
  refine ⟨.tuple #[v1, v2, v3], ?_, hs.answers (av := .x) ho.names h1 ⟨[v1, v2, v3], rfl, ?_⟩⟩
  · simp [results_eq, hr, Array.mapM_eq_mapM_toList, hv1, hv2, hv3]
  · have := ho.made hs (vs := [v1, v2, v3]) [] [] ⟨hc1, hc2, hc3, trivial⟩
    simpa using this
end
/-! The steps, as a walk takes them: facts on types by their numbers. -/
class TPlain (P : Program) (t : Nat) : Prop where
  h : plainT P t = true
  s : sizeT P t 1 = true
class TStruct (P : Program) (t : Nat) (n : outParam Nat) (pl : outParam (List (Nat × Nat))) (zs : outParam (List Value)) : Prop where
  a : aggT P t n = true
  s : structT P t pl zs
  o : zs.all Value.oneCell' = true
class TSlice (P : Program) (t : Nat) (e : outParam Nat) : Prop where
  h : P.underlying t = some (.slice e)
class TElem (P : Program) (e : Nat) (n bytes : outParam Nat) (z : outParam Value) : Prop where
  h : (P.info? e).map (fun i => (i.zero, i.size, i.bytes)) = some (some z, n, bytes)
  c : z.cells.size = n
  n : 0 < n
  b : 0 < bytes
  o : z.cells.toList.all Value.oneCell' = true
class TZero (P : Program) (t : Nat) (z : outParam Value) : Prop where
  h : (P.info? t).bind (·.zero) = some z
  o : (ofV z).one = true
class TInt (P : Program) (t : Nat) (k : outParam IntKind) : Prop where
  h : P.underlying t = some (.int k)
class TKind (P : Program) (e : Nat) (α : outParam Type) (d : outParam (Kd α)) : Prop where
  ok : True
class KFlat {α : Type} (d : Kd α) (enc : outParam (α → List Value)) (dec : outParam (List SV → Option α)) : Prop where
  f : Flat d enc
  d : ∀ cs x, dec cs = some x → cs = (enc x).map SV.c
theorem sliceT_of {P : Program} {t e n by_ : Nat} {z : Value} [h : TSlice P t e] [k : TElem P e n by_ z] : sliceT P t e n = true := by
  obtain ⟨i, hi, hz⟩ := Option.map_eq_some_iff.1 k.h
  simp only [Prod.mk.injEq] at hz
  simp [sliceT, h.h, hi, hz.2.1]
theorem zrep_len {β : Type} (l : List β) : ∀ n, (zrep n l).length = n * l.length
  | 0 => by simp [zrep]
  | n + 1 => by rw [zrep, List.length_append, zrep_len l n, Nat.succ_mul]; omega
theorem zrep_get {β : Type} (l : List β) : ∀ n i, i < n * l.length → (zrep n l)[i]? = l[i % l.length]?
  | 0, i, h => by simp at h
  | n + 1, i, h => by
    rw [zrep]
    rcases Nat.lt_or_ge i l.length with h1 | h1
    · rw [List.getElem?_append_left h1, Nat.mod_eq_of_lt h1]
    · rw [List.getElem?_append_right h1, zrep_get l n _ (by rw [Nat.succ_mul] at h; omega), Nat.mod_eq_sub_mod h1]
theorem zrep_all {l : List Value} (h : l.all Value.oneCell' = true) : ∀ n, (zrep n l).all Value.oneCell' = true
  | 0 => rfl
  | n + 1 => by rw [zrep, List.all_append, h, zrep_all h n]; rfl
theorem zrep_eq {z : Value} {sz len : Nat} (h : z.cells.size = sz) (h0 : 0 < sz) : ((Array.range (len * sz)).map (fun i => (if len * sz = 0 then #[] else z.cells)[i % (if len * sz = 0 then #[] else z.cells).size]!)).toList = zrep len z.cells.toList := by
  apply List.ext_getElem?
  intro i
  by_cases hi : i < len * sz
  · have hne : len * sz ≠ 0 := by omega
    rw [zrep_get _ _ _ (by rw [Array.length_toList, h]; exact hi), Array.length_toList, h]
    simp only [hne, if_false]
    have hlt : i % z.cells.size < z.cells.size := Nat.mod_lt _ (by omega)
    simp [hi]
    rw [← h]
    simp [hlt]
  · rw [List.getElem?_eq_none (by simp; omega), List.getElem?_eq_none (by rw [zrep_len, Array.length_toList, h]; omega)]
section
variable {P : Program} {X : Cx} {ops : Array Oper} {o : Oper} {l : List Oper} {σ : St} {K : List (Pre × Eff) → St → Prop} {lg : List (Nat × AV)} {α : Type} {d : Kd α} {enc : α → List Value} {dec : List SV → Option α} {xs ys : List α}
def decL (dec : List SV → Option α) (n : Nat) : Nat → List SV → Option (List α)
  | 0, [] => some []
  | 0, _ :: _ => none
  | k + 1, cs => match dec (cs.take n), decL dec n k (cs.drop n) with
    | some x, some xs => some (x :: xs)
    | _, _ => none
theorem decL_spec [h : KFlat d enc dec] {n : Nat} : ∀ {k : Nat} {cs : List SV} {xs : List α}, decL dec n k cs = some xs → cs = (xs.flatMap enc).map SV.c ∧ xs.length = k
  | 0, [], xs, e => by cases e; exact ⟨rfl, rfl⟩
  | 0, _ :: _, xs, e => by cases e
  | k + 1, cs, xs, e => by
    unfold decL at e
    cases h1 : dec (cs.take n) with
    | none => rw [h1] at e; cases e
    | some x =>
      cases h2 : decL dec n k (cs.drop n) with
      | none => rw [h1, h2] at e; cases e
      | some xs' =>
        rw [h1, h2] at e
        cases e
        obtain ⟨e1, e2⟩ := decL_spec (n := n) h2
        have e3 := h.d _ _ h1
        refine ⟨?_, by simp [e2]⟩
        rw [List.flatMap_cons, List.map_append, ← e3, ← e1, List.take_append_drop]
theorem fieldT_of {s f off n k : Nat} {pl : List (Nat × Nat)} {zs : List Value} [ht : TStruct P s n pl zs] (hf : pl[f]? = some (off, k)) (hk : Nat.beq k 0 = false) : fieldT P s f off = true := by
  obtain ⟨⟨fs, hu, hp⟩, _⟩ := ht.s
  have h1 : (fs.toList.map fun f => (P.info? f.type).map fun i => (f.offset, i.size))[f]? = some (some (off, k)) := by rw [hp, List.getElem?_map, hf]; rfl
  rw [List.getElem?_map] at h1
  obtain ⟨y, hy, hy2⟩ := Option.map_eq_some_iff.1 h1
  obtain ⟨i, hi, hy3⟩ := Option.map_eq_some_iff.1 hy2
  simp only [Prod.mk.injEq] at hy3
  have hyA : fs[f]? = some y := by simpa using hy
  simp [fieldT, hu, hyA, hi, hy3.1, hy3.2, hk]
section
variable (hgo : GOn ops σ o lg) (hd : dstOk o.dst σ.n = true)
include hgo hd
theorem x_add {T yT : TypeId} {x y : Operand} {a b : Int} (ho : o.op = .binOp .add T x y yT) (hx : opnd σ.F x = some (.o (.c (.int .i64 a)))) (hy : opnd σ.F y = some (.o (.c (.int .i64 b)))) (hb : -9223372036854775808 ≤ a + b ∧ a + b ≤ 9223372036854775807)
    (h : LX P X ops l (σ.app o.dst ⟨.o (.c (.int .i64 (a + b))), [], []⟩) (fun C => K ((⟨lg ++ (look x (.o (.c (.int .i64 a))) ++ look y (.o (.c (.int .i64 b)))), []⟩, ⟨.o (.c (.int .i64 (a + b))), [], []⟩) :: C))) : LX P X ops (o :: l) σ K :=
  Lx.bin hgo hd ho hx hy (fun w => by rw [show (.int .i64 (a + b) : Value) = .int .i64 (IntKind.i64.wrap (a + b)) by rw [IntWalk.i64_in _ hb]]; rfl) h
theorem x_sub {T yT : TypeId} {x y : Operand} {a b : Int} (ho : o.op = .binOp .sub T x y yT) (hx : opnd σ.F x = some (.o (.c (.int .i64 a)))) (hy : opnd σ.F y = some (.o (.c (.int .i64 b)))) (hb : -9223372036854775808 ≤ a - b ∧ a - b ≤ 9223372036854775807)
    (h : LX P X ops l (σ.app o.dst ⟨.o (.c (.int .i64 (a - b))), [], []⟩) (fun C => K ((⟨lg ++ (look x (.o (.c (.int .i64 a))) ++ look y (.o (.c (.int .i64 b)))), []⟩, ⟨.o (.c (.int .i64 (a - b))), [], []⟩) :: C))) : LX P X ops (o :: l) σ K :=
  Lx.bin hgo hd ho hx hy (fun w => by rw [show (.int .i64 (a - b) : Value) = .int .i64 (IntKind.i64.wrap (a - b)) by rw [IntWalk.i64_in _ hb]]; rfl) h
theorem x_mul {T yT : TypeId} {x y : Operand} {a b : Int} (ho : o.op = .binOp .mul T x y yT) (hx : opnd σ.F x = some (.o (.c (.int .i64 a)))) (hy : opnd σ.F y = some (.o (.c (.int .i64 b)))) (hb : -9223372036854775808 ≤ a * b ∧ a * b ≤ 9223372036854775807)
    (h : LX P X ops l (σ.app o.dst ⟨.o (.c (.int .i64 (a * b))), [], []⟩) (fun C => K ((⟨lg ++ (look x (.o (.c (.int .i64 a))) ++ look y (.o (.c (.int .i64 b)))), []⟩, ⟨.o (.c (.int .i64 (a * b))), [], []⟩) :: C))) : LX P X ops (o :: l) σ K :=
  Lx.bin hgo hd ho hx hy (fun w => by rw [show (.int .i64 (a * b) : Value) = .int .i64 (IntKind.i64.wrap (a * b)) by rw [IntWalk.i64_in _ hb]]; rfl) h
theorem x_quo {T yT : TypeId} {x y : Operand} {a b : Int} (ho : o.op = .binOp .quo T x y yT) (hx : opnd σ.F x = some (.o (.c (.int .i64 a)))) (hy : opnd σ.F y = some (.o (.c (.int .i64 b)))) (hb : (0 ≤ a ∧ a ≤ 9223372036854775807) ∧ 0 < b)
    (h : LX P X ops l (σ.app o.dst ⟨.o (.c (.int .i64 (a / b))), [], []⟩) (fun C => K ((⟨lg ++ (look x (.o (.c (.int .i64 a))) ++ look y (.o (.c (.int .i64 b)))), []⟩, ⟨.o (.c (.int .i64 (a / b))), [], []⟩) :: C))) : LX P X ops (o :: l) σ K :=
  Lx.bin hgo hd ho hx hy (fun w => by
    have h1 : a.tdiv b = a / b := Int.tdiv_eq_ediv_of_nonneg hb.1.1
    have h2 : 0 ≤ a / b := Int.ediv_nonneg hb.1.1 (by omega)
    have h3 : a / b ≤ a := Int.ediv_le_self b hb.1.1
    have hne : b ≠ 0 := by omega
    have h4 : IntKind.i64.wrap (a / b) = a / b := IntWalk.i64_in _ (by omega)
    simp [eqGuard, binOp, Op.intDiv, hne, h1, h4]) h
theorem x_rem {T yT : TypeId} {x y : Operand} {a b : Int} (ho : o.op = .binOp .rem T x y yT) (hx : opnd σ.F x = some (.o (.c (.int .i64 a)))) (hy : opnd σ.F y = some (.o (.c (.int .i64 b)))) (hb : 0 ≤ a ∧ 0 < b)
    (h : LX P X ops l (σ.app o.dst ⟨.o (.c (.int .i64 (a % b))), [], []⟩) (fun C => K ((⟨lg ++ (look x (.o (.c (.int .i64 a))) ++ look y (.o (.c (.int .i64 b)))), []⟩, ⟨.o (.c (.int .i64 (a % b))), [], []⟩) :: C))) : LX P X ops (o :: l) σ K :=
  Lx.bin hgo hd ho hx hy (fun w => by
    have h1 : a.tmod b = a % b := Int.tmod_eq_emod_of_nonneg hb.1
    have hne : b ≠ 0 := by omega
    simp [eqGuard, binOp, Op.intDiv, hne, h1]) h
theorem x_conv {src dst : TypeId} {x : Operand} {k k' : IntKind} {a : Int} (ho : o.op = .convert src dst x) [hs : TInt P src k] [ht : TInt P dst k'] (hx : opnd σ.F x = some (.o (.c (.int k a))))
    (h : LX P X ops l (σ.app o.dst ⟨.o (.c (.int k' (k'.wrap a))), [], []⟩) (fun C => K ((⟨lg ++ look x (.o (.c (.int k a))), []⟩, ⟨.o (.c (.int k' (k'.wrap a))), [], []⟩) :: C))) : LX P X ops (o :: l) σ K :=
  Lx.val (h := h) hgo.1 hgo.2 hd (look_fits hx) no_mem (fun σ1 h1 _ μ ω a w hs1 => by
    refine ⟨_, ?_, rfl⟩
    have e1 := hs1.val (opnd_of hx h1)
    unfold execOp
    simp [ho, e1, convert, run_underlying hs.h, run_underlying ht.h, Conv.intToInt])
theorem x_load1 {t : Nat} [ht : TPlain P t] {x : Operand} {id off T : Nat} {cs : List SV} {s : SV} (ho : o.op = .load t x) (hx : opnd σ.F x = some (.o (.p id off))) (hH : σ.H id = some (.box T cs)) (hs : cs[off]? = some s)
    (h : LX P X ops l (σ.app o.dst ⟨.o s, [], []⟩) (fun C => K ((⟨lg ++ look x (.o (.p id off)), [(id, .box T cs)]⟩, ⟨.o s, [], []⟩) :: C))) : LX P X ops (o :: l) σ K := Lx.load1 hgo hd ho hx hH hs ht.h h
theorem x_loadA {t n : Nat} {pl : List (Nat × Nat)} {zs : List Value} [ht : TStruct P t n pl zs] {x : Operand} {id off T : Nat} {cs : List SV} (ho : o.op = .load t x) (hx : opnd σ.F x = some (.o (.p id off))) (hH : σ.H id = some (.box T cs)) (hn : Nat.ble (off + n) cs.length = true)
    (h : LX P X ops l (σ.app o.dst ⟨.a ((cs.drop off).take n), [], []⟩) (fun C => K ((⟨lg ++ look x (.o (.p id off)), [(id, .box T cs)]⟩, ⟨.a ((cs.drop off).take n), [], []⟩) :: C))) : LX P X ops (o :: l) σ K := Lx.loadA hgo hd ho hx hH ht.a (Nat.le_of_ble_eq_true hn) h
theorem x_loadE {t n : Nat} {pl : List (Nat × Nat)} {zs : List Value} [ht : TStruct P t n pl zs] [hk : KFlat d enc dec] {x : Operand} {id ix : Nat} {b : AObj} {y : α} (ho : o.op = .load t x) (hx : opnd σ.F x = some (.o (.e id d.sz ix 0))) (hH : σ.H id = some b) (hr : Rdb d xs b) (hy : xs[ix]? = some y) (hn : n = d.sz)
    (h : LX P X ops l (σ.app o.dst ⟨.a ((enc y).map SV.c), [], []⟩) (fun C => K ((⟨lg ++ look x (.o (.e id d.sz ix 0)), [(id, b)]⟩, ⟨.a ((enc y).map SV.c), [], []⟩) :: C))) : LX P X ops (o :: l) σ K := Lx.loadE hgo hd ho hx hH hr hk.f hy (hn ▸ ht.a) h
theorem x_loadF {t : Nat} [ht : TPlain P t] [hk : KFlat d enc dec] {x : Operand} {id ix off : Nat} {b : AObj} {y : α} {u : Value} (ho : o.op = .load t x) (hx : opnd σ.F x = some (.o (.e id d.sz ix off))) (hH : σ.H id = some b) (hr : Rdb d xs b) (hy : xs[ix]? = some y) (hu : (enc y)[off]? = some u)
    (h : LX P X ops l (σ.app o.dst ⟨.o (.c u), [], []⟩) (fun C => K ((⟨lg ++ look x (.o (.e id d.sz ix off)), [(id, b)]⟩, ⟨.o (.c u), [], []⟩) :: C))) : LX P X ops (o :: l) σ K := Lx.loadF hgo hd ho hx hH hr hk.f hy hu ht.h h
theorem x_fieldP {s f off0 n k : Nat} {pl : List (Nat × Nat)} {zs : List Value} [ht : TStruct P s n pl zs] {x : Operand} {id off : Nat} (ho : o.op = .fieldAddr s x f) (hx : opnd σ.F x = some (.o (.p id off))) (hf : pl[f]? = some (off0, k)) (hk : Nat.beq k 0 = false)
    (h : LX P X ops l (σ.app o.dst ⟨.o (.p id (off + off0)), [], []⟩) (fun C => K ((⟨lg ++ look x (.o (.p id off)), []⟩, ⟨.o (.p id (off + off0)), [], []⟩) :: C))) : LX P X ops (o :: l) σ K := Lx.fieldP hgo hd ho hx (fieldT_of (ht := ht) hf hk) h
theorem x_fieldE {s f off0 n k : Nat} {pl : List (Nat × Nat)} {zs : List Value} [ht : TStruct P s n pl zs] {x : Operand} {id sz ix off : Nat} (ho : o.op = .fieldAddr s x f) (hx : opnd σ.F x = some (.o (.e id sz ix off))) (hf : pl[f]? = some (off0, k)) (hk : Nat.beq k 0 = false)
    (h : LX P X ops l (σ.app o.dst ⟨.o (.e id sz ix (off + off0)), [], []⟩) (fun C => K ((⟨lg ++ look x (.o (.e id sz ix off)), []⟩, ⟨.o (.e id sz ix (off + off0)), [], []⟩) :: C))) : LX P X ops (o :: l) σ K := Lx.fieldE hgo hd ho hx (fieldT_of (ht := ht) hf hk) h
theorem x_index {t e n by_ : Nat} {z : Value} [hs : TSlice P t e] [he : TElem P e n by_ z] {x y : Operand} {id ix : Nat} {b : AObj} {k : IntKind} {i : Int} (ho : o.op = .indexAddr t x y) (hx : opnd σ.F x = some (.o (.i id))) (hy : opnd σ.F y = some (.o (.c (.int k i)))) (hH : σ.H id = some b) (hr : Rdb d xs b) (hn : n = d.sz) (hi : i = (ix : Int)) (hlt : ix < xs.length)
    (h : LX P X ops l (σ.app o.dst ⟨.o (.e id d.sz ix 0), [], []⟩) (fun C => K ((⟨lg ++ (look x (.o (.i id)) ++ look y (.o (.c (.int k i)))), [(id, b)]⟩, ⟨.o (.e id d.sz ix 0), [], []⟩) :: C))) : LX P X ops (o :: l) σ K :=
  Lx.index hgo hd ho hx hy hH hr (by rw [← hn]; exact sliceT_of (z := z) (by_ := by_)) hi hlt (by rw [← hn]; exact he.n) h
theorem x_len {t e n by_ : Nat} {z : Value} [hs : TSlice P t e] [he : TElem P e n by_ z] {x : Operand} {id : Nat} {b : AObj} (ho : o.op = .call { callee := .builtin .len, args := #[x], argTypes := #[t] }) (hx : opnd σ.F x = some (.o (.i id))) (hH : σ.H id = some b) (hr : Rdb d xs b)
    (h : LX P X ops l (σ.app o.dst ⟨.o (.c (.int .i64 (xs.length : Int))), [], []⟩) (fun C => K ((⟨lg ++ look x (.o (.i id)), [(id, b)]⟩, ⟨.o (.c (.int .i64 (xs.length : Int))), [], []⟩) :: C))) : LX P X ops (o :: l) σ K :=
  Lx.lenI hgo hd ho hx hH hr (sliceT_of (z := z) (by_ := by_)) h
theorem x_alloc {t : Nat} {z : Value} [ht : TZero P t z] {id : Nat} (ho : o.op = .alloc t) (hid0 : o.dst = some id) (hid : σ.D id = false)
    (h : LX P X ops l (σ.app o.dst ⟨.o (.p id 0), [(id, some (.box t (cellsOf (ofV z))))], [(id, true)]⟩) (fun C => K ((⟨lg ++ [], []⟩, ⟨.o (.p id 0), [(id, some (.box t (cellsOf (ofV z))))], [(id, true)]⟩) :: C))) : LX P X ops (o :: l) σ K :=
  Lx.alloc hgo hd ho ht.h ht.o hid h
theorem x_box {t : Nat} {x : Operand} {av : AV} {id : Nat} (ho : o.op = .box t x) (hx : opnd σ.F x = some av) (h1 : av.one = true) (hid0 : o.dst = some id) (hid : σ.D id = false)
    (h : LX P X ops l (σ.app o.dst ⟨.o (.p id 0), [(id, some (.box t (cellsOf av)))], [(id, true)]⟩) (fun C => K ((⟨lg ++ look x av, []⟩, ⟨.o (.p id 0), [(id, some (.box t (cellsOf av)))], [(id, true)]⟩) :: C))) : LX P X ops (o :: l) σ K :=
  Lx.box hgo hd ho hx h1 hid h
theorem x_store1 {t T : Nat} [ht : TPlain P t] {x y : Operand} {s : SV} {id off : Nat} {cs : List SV} (ho : o.op = .store t x y) (hx : opnd σ.F x = some (.o (.p id off))) (hy : opnd σ.F y = some (.o s)) (hH : σ.H id = some (.box T cs)) (h1 : s.one = true) (hl : Nat.ble (off + 1) cs.length = true)
    (h : LX P X ops l (σ.app o.dst ⟨.o (.c undef), [(id, some (.box T (setL cs off [s])))], []⟩) (fun C => K ((⟨lg ++ (look x (.o (.p id off)) ++ look y (.o s)), [(id, .box T cs)]⟩, ⟨.o (.c undef), [(id, some (.box T (setL cs off [s])))], []⟩) :: C))) : LX P X ops (o :: l) σ K :=
  Lx.store (av := .o s) hgo hd ho hx hy hH h1 rfl ht.s (Nat.le_of_ble_eq_true hl) h
theorem x_storeA {t T n : Nat} {pl : List (Nat × Nat)} {zs : List Value} [ht : TStruct P t n pl zs] {x y : Operand} {m : List SV} {id off : Nat} {cs : List SV} (ho : o.op = .store t x y) (hx : opnd σ.F x = some (.o (.p id off))) (hy : opnd σ.F y = some (.a m)) (hH : σ.H id = some (.box T cs)) (h1 : m.all SV.one = true) (hm : m.length = n) (hl : Nat.ble (off + n) cs.length = true)
    (h : LX P X ops l (σ.app o.dst ⟨.o (.c undef), [(id, some (.box T (setL cs off m)))], []⟩) (fun C => K ((⟨lg ++ (look x (.o (.p id off)) ++ look y (.a m)), [(id, .box T cs)]⟩, ⟨.o (.c undef), [(id, some (.box T (setL cs off m)))], []⟩) :: C))) : LX P X ops (o :: l) σ K :=
  Lx.store (av := .a m) hgo hd ho hx hy hH h1 hm (sizeT_of_agg ht.a) (Nat.le_of_ble_eq_true hl) h
theorem x_build {t n : Nat} {ps : List (Nat × Operand)} {avs : List (Nat × AV)} {pl : List (Nat × Nat)} {zs : List Value} {out : List SV} [ht : TStruct P t n pl zs] (ho : o.op = .build t ps.toArray) (hx : opndL σ.F ps = some avs) (hf : fillA (fun i => pl[i]?) (zs.map SV.c) avs = some out)
    (h : LX P X ops l (σ.app o.dst ⟨.a out, [], []⟩) (fun C => K ((⟨lg ++ lookL ps avs, []⟩, ⟨.a out, [], []⟩) :: C))) : LX P X ops (o :: l) σ K :=
  Lx.build hgo hd ho hx ht.s ht.o hf h
theorem x_buildS {t e n by_ len : Nat} {z : Value} [hs : TSlice P t e] [he : TElem P e n by_ z] [_ht : TKind P e α d] [hk : KFlat d enc dec] {ps : List (Nat × Operand)} {avs : List (Nat × AV)} {out : List SV} {xs : List α} {nid : Nat} (hn : n = d.sz) (ho : o.op = .buildSlice t len ps.toArray) (hx : opndL σ.F ps = some avs) (hsm : Nat.ble (len * n) 16777216 = true)
    (hfl : fillA (fun i => some (i * n, n)) ((zrep len z.cells.toList).map SV.c) avs = some out) (hdec : decL dec n len out = some xs) (hid0 : o.dst = some nid) (hid : σ.D nid = false)
    (h : LX P X ops l (σ.app o.dst ⟨.o (.i nid), [(nid, some (.row d e xs))], [(nid, true)]⟩) (fun C => K ((⟨lg ++ lookL ps avs, []⟩, ⟨.o (.i nid), [(nid, some (.row d e xs))], [(nid, true)]⟩) :: C))) : LX P X ops (o :: l) σ K := by
  subst hn
  obtain ⟨e1, e2⟩ := decL_spec (d := d) hdec
  subst e1
  have h3 := Nat.le_of_ble_eq_true hsm
  have hi : (P.info? e).map (fun i => (i.zero, i.size)) = some (some z, d.sz) := by
    obtain ⟨i, hi, hz⟩ := Option.map_eq_some_iff.1 he.h
    simp only [Prod.mk.injEq] at hz
    simp [hi, hz.1, hz.2.1]
  have hlen : len ≤ len * d.sz := Nat.le_mul_of_pos_right _ he.n
  exact Lx.buildS hgo hd ho hx hs.h hi h3 (zrep_eq he.c he.n) (zrep_all he.o len) hfl e2 (by omega) hk.f hid h
theorem x_append {s x : Operand} {id id2 nid t e n by_ : Nat} {z : Value} [hs : TSlice P t e] [he : TElem P e n by_ z] {b : AObj} [hk : KFlat d enc dec] (ho : o.op = .call { callee := .builtin .append, args := #[s, x], argTypes := #[t, t] }) (hsx : opnd σ.F s = some (.o (.i id))) (hx : opnd σ.F x = some (.o (.i id2))) (hH : σ.H id = some (.row d e xs)) (hH2 : σ.H id2 = some b) (hr : Rdb d ys b) (hn : n = d.sz)
    (hl : (xs.length + ys.length) * by_ ≤ 140737488355328) (hid0 : o.dst = some nid) (hid : σ.D nid = false)
    (h : LX P X ops l (σ.app o.dst ⟨.o (.i nid), [(id, none), (nid, some (.row d e (xs ++ ys)))], [(nid, true)]⟩) (fun C => K ((⟨lg ++ (look s (.o (.i id)) ++ look x (.o (.i id2))), [(id, .row d e xs), (id2, b)]⟩, ⟨.o (.i nid), [(id, none), (nid, some (.row d e (xs ++ ys)))], [(nid, true)]⟩) :: C))) : LX P X ops (o :: l) σ K := by
  subst hn
  exact Lx.append hgo hd ho hsx hx hH hH2 hr hk.f hs.h he.h he.c he.n he.b hl hid h
theorem x_pickT {c x y : Operand} {av : AV} (ho : o.op = .pick c x y) (hc : opnd σ.F c = some (.o (.c (.bool true)))) (hx : opnd σ.F x = some av)
    (h : LX P X ops l (σ.app o.dst ⟨av, [], []⟩) (fun C => K ((⟨lg ++ (look c (.o (.c (.bool true))) ++ look x av), []⟩, ⟨av, [], []⟩) :: C))) : LX P X ops (o :: l) σ K :=
  Lx.val (h := h) hgo.1 hgo.2 hd (mem_app (look_fits hc) (look_fits hx)) no_mem (fun σ1 h1 _ μ ω a w hs1 => by
    refine ⟨a.eval x, ?_, hs1.ev (opnd_of hx (app_r h1))⟩
    have e1 := hs1.val (opnd_of hc (app_l h1))
    unfold execOp
    simp [ho, e1, asBool])
theorem x_pickF {c x y : Operand} {av : AV} (ho : o.op = .pick c x y) (hc : opnd σ.F c = some (.o (.c (.bool false)))) (hy : opnd σ.F y = some av)
    (h : LX P X ops l (σ.app o.dst ⟨av, [], []⟩) (fun C => K ((⟨lg ++ (look c (.o (.c (.bool false))) ++ look y av), []⟩, ⟨av, [], []⟩) :: C))) : LX P X ops (o :: l) σ K :=
  Lx.val (h := h) hgo.1 hgo.2 hd (mem_app (look_fits hc) (look_fits hy)) no_mem (fun σ1 h1 _ μ ω a w hs1 => by
    refine ⟨a.eval y, ?_, hs1.ev (opnd_of hy (app_r h1))⟩
    have e1 := hs1.val (opnd_of hc (app_l h1))
    unfold execOp
    simp [ho, e1, asBool])
theorem x_call {f nid : Nat} {fn : Func} {xs : List Operand} {ts : Array TypeId} {avs : List (Nat × AV)} {args : List Arg} {r : Res} (hc : FnR P f args r) (ho : o.op = .call { callee := .value (.func f), args := xs.toArray, argTypes := ts }) (hid0 : o.dst = some nid)
    (hf : P.funcs[f]? = some fn) (hname : (fn.name == "runtime.NumGoroutine") = false) (hb : fn.body.isSome = true) (hx : opndL σ.F (numL xs) = some avs) (hm : AsMatch σ.H avs args (phT σ.H avs args)) (hnew : (rngL (100000 + 10 * nid) r.cnt).all (fun k => !σ.D k) = true)
    (h : LX P X ops l (σ.app o.dst ⟨r.av (100000 + 10 * nid), someL (r.objs (100000 + 10 * nid)), trueL (r.objs (100000 + 10 * nid))⟩) (fun C => K ((⟨lg ++ lookL (numL xs) avs, phT σ.H avs args⟩, ⟨r.av (100000 + 10 * nid), someL (r.objs (100000 + 10 * nid)), trueL (r.objs (100000 + 10 * nid))⟩) :: C))) : LX P X ops (o :: l) σ K :=
  Lx.call hgo hd (100000 + 10 * nid) hc ho hf hname hb hx hm hnew h
end
end
section
variable {σ : St} {Q : Post} {Kp_ : St → Prop} {id : Nat}
theorem then_normal (h : Kp_ σ) : Post.then_ Kp_ Q .normal σ := h
theorem then_exit (h : Q (.exit id) σ) : Post.then_ Kp_ Q (.exit id) σ := h
theorem then_ret (h : Q .ret σ) : Post.then_ Kp_ Q .ret σ := h
theorem out_ret (h : Q .ret σ) : Post.inBlock id Q .ret σ := h
theorem out_normal (h : Q .normal σ) : Post.inBlock id Q .normal σ := h
end
theorem item_cellS {P : Program} {σ : St} {p t id T n : Nat} {pl : List (Nat × Nat)} {zs : List Value} [ht : TStruct P t n pl zs] {cs : List SV} (h : σ.F p = some (.o (.p id 0))) (hH : σ.H id = some (.box T cs)) (hl : cs.length = n) : Item P σ (.cell p t) (.a cs) := item_cellA h hH (hl ▸ ht.a)
theorem item_cellO {P : Program} {σ : St} {p t id T : Nat} [ht : TPlain P t] {s : SV} (h : σ.F p = some (.o (.p id 0))) (hH : σ.H id = some (.box T [s])) : Item P σ (.cell p t) (.o s) := item_cell1 h hH ht.h
theorem eqI {k : IntKind} {a b : Int} (h : a = b) : some (AV.o (.c (.int k a))) = some (AV.o (.c (.int k b))) := by rw [h]
theorem eqB {a b : Bool} (h : a = b) : some (AV.o (.c (.bool a))) = some (AV.o (.c (.bool b))) := by rw [h]
theorem eqR {α : Type} {d : Kd α} {t : Nat} {xs ys : List α} (h : xs = ys) : some (AObj.row d t xs) = some (AObj.row d t ys) := by rw [h]
theorem elt {α : Type} {l : List α} {k : Nat} (h : k < l.length) : ∃ x, l[k]? = some x := ⟨_, List.getElem?_eq_getElem h⟩

/-- Contracts that were told of memory. -/
def SArg.val : SArg → Option Value
  | .c v => some v
  | _ => none
def valL : List SArg → Option (List Value)
  | [] => some []
  | s :: l => match s.val, valL l with
    | some v, some vs => some (v :: vs)
    | _, _ => none
def Arg.val : Arg → Option Value
  | .o s => s.val
  | .a l => (valL l).map fun vs => .agg vs.toArray
def valA : List Arg → Option (List Value)
  | [] => some []
  | s :: l => match s.val, valA l with
    | some v, some vs => some (v :: vs)
    | _, _ => none
theorem SArg.ok_val {w : World} {s : SArg} {u v : Value} (h : s.val = some u) (hk : s.ok w v) : v = u := by
  cases s with
  | c x => cases h; exact hk
  | r d t xs => cases h
theorem okL_val {w : World} : ∀ {l : List SArg} {us vs : List Value}, valL l = some us → okL w l vs → vs = us
  | [], us, [], h, _ => by cases h; rfl
  | s :: l, us, v :: vs, h, hk => by
    unfold valL at h
    cases h1 : s.val with
    | none => rw [h1] at h; cases h
    | some x =>
      cases h2 : valL l with
      | none => rw [h1, h2] at h; cases h
      | some xs => rw [h1, h2] at h; cases h; rw [SArg.ok_val h1 hk.1, okL_val h2 hk.2]
  | [], _, _ :: _, _, hk => hk.elim
  | _ :: _, _, [], _, hk => hk.elim
theorem Arg.ok_val {w : World} {s : Arg} {u v : Value} (h : s.val = some u) (hk : s.ok w v) : v = u := by
  cases s with
  | o s => exact SArg.ok_val h hk
  | a l =>
    obtain ⟨vs, rfl, hk⟩ := hk
    obtain ⟨us, hu, rfl⟩ := Option.map_eq_some_iff.1 h
    rw [okL_val hu hk]
theorem okA_val {w : World} : ∀ {l : List Arg} {us vs : List Value}, valA l = some us → okA w l vs → vs = us
  | [], us, [], h, _ => by cases h; rfl
  | s :: l, us, v :: vs, h, hk => by
    unfold valA at h
    cases h1 : s.val with
    | none => rw [h1] at h; cases h
    | some x =>
      cases h2 : valA l with
      | none => rw [h1, h2] at h; cases h
      | some xs => rw [h1, h2] at h; cases h; rw [Arg.ok_val h1 hk.1, okA_val h2 hk.2]
  | [], _, _ :: _, _, hk => hk.elim
  | _ :: _, _, [], _, hk => hk.elim
theorem made_plain {b : Nat} {w : World} {r : Res} {v : Value} (h : r.made w (fun _ _ => False) v) : Made b w r v := ⟨fun _ _ => False, fun _ _ h => h.elim, fun _ _ _ _ h => h.elim, h⟩
/-- A function of plain values, told of memory. -/
theorem fnR_plain {P : Program} {f : FuncId} {args : List Arg} {vals : List Value} {r : Value} (hp : valA args = some vals) (hc : ∀ w, Calls P f vals.toArray w (fun e w' => e = .returned r ∧ Below w.heap.size w w')) : FnR P f args (.one (.o (.c r))) := fun w vs h => by
  rw [okA_val hp h]
  exact (hc w).mono (fun e w' ⟨he, hb⟩ => ⟨r, he, made_plain rfl, hb⟩)
theorem fnR_plain0 {P : Program} {f : FuncId} {args : List Arg} {vals : List Value} {r : Value} (hp : valA args = some vals) (hc : ∀ w, Calls P f vals.toArray w (fun e w' => e = .returned r ∧ w = w')) : FnR P f args (.one (.o (.c r))) := fnR_plain hp (fun w => (hc w).mono (fun e w' ⟨he, hb⟩ => ⟨he, hb ▸ Below.refl _ _⟩))
theorem fnR_plainS {P : Program} {f : FuncId} {args : List Arg} {vals : List Value} {l : List SArg} {us : List Value} (hp : valA args = some vals) (hl : valL l = some us) (hm : ∀ w, madeL w (fun _ _ => False) 0 l us) (hc : ∀ w, Calls P f vals.toArray w (fun e w' => e = .returned (.agg us.toArray) ∧ Below w.heap.size w w')) : FnR P f args (.one (.a l)) := fun w vs h => by
  rw [okA_val hp h]
  exact (hc w).mono (fun e w' ⟨he, hb⟩ => ⟨_, he, made_plain ⟨us, rfl, hm w'⟩, hb⟩)
theorem made_row {α : Type} {d : Kd α} {enc : α → List Value} {dec : List SV → Option α} [hk : KFlat d enc dec] {t b : Nat} {w : World} {v : Value} {xs : List α} (h : d.R t w b (fun _ => True) v xs) : Made b w (.one (.o (.r d t xs))) v :=
  ⟨fun j k => j = 0 ∧ b ≤ k ∧ k < w.heap.size, fun j k hk => hk.2, fun i j hij k hi hj => hij (hi.1.trans hj.1.symm), b, S_flat hk.f (Kd.R_mono (Kd.R_bound h) (fun k hk => ⟨rfl, hk.2.1, hk.2.2.1⟩))⟩
theorem row_args {α : Type} {d : Kd α} {t : Nat} {l : List α} {w : World} {vs : List Value} (h : okA w [.o (.r d t l)] vs) : ∃ A c, vs = [.slice A l.length c] ∧ d.C w A l.length l := by
  match vs, h with
  | [v], ⟨⟨A, c, e, _, h1⟩, _⟩ => exact ⟨A, c, by rw [e], h1⟩
theorem ax_condT {P : Program} {X : Cx} {σ : St} {Q : Post} {x y : Code} {o : Operand} (ho : opnd σ.F o = some (.o (.c (.bool true)))) (h : AX P X x σ Q) : AX P X (.cond o x y) σ Q := ax_cond ho (fun _ => h) (fun e => by cases e)
theorem ax_condF {P : Program} {X : Cx} {σ : St} {Q : Post} {x y : Code} {o : Operand} (ho : opnd σ.F o = some (.o (.c (.bool false)))) (h : AX P X y σ Q) : AX P X (.cond o x y) σ Q := ax_cond ho (fun e => by cases e) (fun _ => h)
theorem ax_condE {P : Program} {X : Cx} {σ : St} {Q : Post} {x y : Code} {o : Operand} {b c : Bool} (ho : opnd σ.F o = some (.o (.c (.bool b)))) (hb : b = c) (h : AX P X (bif c then x else y) σ Q) : AX P X (.cond o x y) σ Q := by
  subst hb
  exact ax_cond ho (fun e => by subst e; exact h) (fun e => by subst e; exact h)
theorem ax_condHT {P : Program} {X : Cx} {σ : St} {Q : Post} {x y : Code} {o : Operand} {b : Bool} (ho : opnd σ.F o = some (.o (.c (.bool b)))) (hb : b = true) (h : AX P X x σ Q) : AX P X (.cond o x y) σ Q := ax_condT (hb ▸ ho) h
theorem ax_condHF {P : Program} {X : Cx} {σ : St} {Q : Post} {x y : Code} {o : Operand} {b : Bool} (ho : opnd σ.F o = some (.o (.c (.bool b)))) (hb : b = false) (h : AX P X y σ Q) : AX P X (.cond o x y) σ Q := ax_condF (hb ▸ ho) h
theorem withG {P : Program} {X : Cx} {ops : Array Oper} {o : Oper} {l : List Oper} {σ : St} {K : List (Pre × Eff) → St → Prop} {lg : List (Nat × AV)} (hgo : GOn ops σ o lg) (h : GOn ops σ o lg → LX P X ops (o :: l) σ K) : LX P X ops (o :: l) σ K := h hgo
theorem set_get {α : Type} {l : List α} {k : Nat} {y : α} (h : k < l.length) : (l.set k y)[k]? = some y := by simp [h]
/-! Gates: an operation of another kind is passed at once. -/
section
variable {P : Program} {X : Cx} {ops : Array Oper} {o : Oper} {l : List Oper} {σ : St} {K : List (Pre × Eff) → St → Prop}
theorem gate (f : Op → Bool) (_ : f o.op = true) (h : LX P X ops (o :: l) σ K) : LX P X ops (o :: l) σ K := h
end
def gIndex : Op → Bool | .indexAddr .. => true | _ => false
def gLoad : Op → Bool | .load .. => true | _ => false
def gStore : Op → Bool | .store .. => true | _ => false
def gMakeS : Op → Bool | .makeSlice .. => true | _ => false
def gBuiltin : Op → Bool | .call c => (match c.callee with | .builtin _ => true | _ => false) | _ => false
/-! Functions that write into rows that they are handed. -/
/-- f, handed rows of its own (args), leaves outs in them, and answers r. -/
def FnW (P : Program) (f : FuncId) (args outs : List Arg) (r : Value) : Prop := ∀ w vs (ow : Om), (∀ j k, ow j k → k < w.heap.size) → (∀ i j, i ≠ j → ∀ k, ow i k → ¬ ow j k) → madeA w ow 0 args vs →
  Calls P f vs.toArray w (fun e w' => e = .returned r ∧ madeA w' ow 0 outs vs ∧ Kp w w' (fun k => ∃ j, ow j k))
/-- The rows of args and outs are of one make. -/
inductive SSame : SArg → SArg → Prop
  | c (v : Value) : SSame (.c v) (.c v)
  | r {α : Type} (d : Kd α) (t : Nat) (xs ys : List α) : SSame (.r d t xs) (.r d t ys)
inductive LSame : List SArg → List SArg → Prop
  | nil : LSame [] []
  | cons {s x : SArg} {l m : List SArg} (h : SSame s x) (k : LSame l m) : LSame (s :: l) (x :: m)
inductive ASame : Arg → Arg → Prop
  | o {s x : SArg} (h : SSame s x) : ASame (.o s) (.o x)
  | a {l m : List SArg} (h : LSame l m) : ASame (.a l) (.a m)
inductive TSame : List Arg → List Arg → Prop
  | nil : TSame [] []
  | cons {s x : Arg} {l m : List Arg} (h : ASame s x) (k : TSame l m) : TSame (s :: l) (x :: m)
theorem SSame.cnt {s x : SArg} (h : SSame s x) : s.cnt = x.cnt := by cases h <;> rfl
theorem LSame.cnt {s x : List SArg} (h : LSame s x) : cntL s = cntL x := by
  induction h with
  | nil => rfl
  | cons h _ ih => rw [cntL, cntL, h.cnt, ih]
theorem ASame.cnt {s x : Arg} (h : ASame s x) : s.cnt = x.cnt := by
  cases h with
  | o h => exact h.cnt
  | a h => exact h.cnt
def huS : SV → SArg → List (Nat × Option AObj)
  | .i id, .r d t ys => [(id, some (.row d t ys))]
  | _, _ => []
def huL : List SV → List SArg → List (Nat × Option AObj)
  | s :: l, x :: m => huS s x ++ huL l m
  | _, _ => []
def huA : AV → Arg → List (Nat × Option AObj)
  | .o s, .o x => huS s x
  | .a l, .a m => huL l m
  | _, _ => []
def huT : List AV → List Arg → List (Nat × Option AObj)
  | s :: l, x :: m => huA s x ++ huT l m
  | _, _ => []
section
variable {P : Program} {X : Cx} {ops : Array Oper} {o : Oper} {l : List Oper} {σ : St} {K : List (Pre × Eff) → St → Prop} {lg : List (Nat × AV)} {μ : Mu} {ω : Om} {a : Act} {w w' : World} {H : Hp} {ow : Om}
def HuOk (X : Cx) (w' : World) (μ : Mu) (ω : Om) (p : List (Option Nat)) (hu : List (Nat × Option AObj)) : Prop := (∀ q ∈ hu, ∃ v o', μ q.1 = some v ∧ q.2 = some o' ∧ o'.holds X w' μ v (ω q.1) ∧ some q.1 ∈ p) ∧ ∀ id, some id ∈ p → id ∈ hu.map (·.1)
theorem HuOk.app {p p' : List (Option Nat)} {h h' : List (Nat × Option AObj)} (a1 : HuOk X w' μ ω p h) (a2 : HuOk X w' μ ω p' h') : HuOk X w' μ ω (p ++ p') (h ++ h') := by
  refine ⟨fun q hq => ?_, fun id hid => ?_⟩
  · rcases List.mem_append.1 hq with hq | hq
    · obtain ⟨v, o', h1, h2, h3, h4⟩ := a1.1 q hq
      exact ⟨v, o', h1, h2, h3, List.mem_append_left _ h4⟩
    · obtain ⟨v, o', h1, h2, h3, h4⟩ := a2.1 q hq
      exact ⟨v, o', h1, h2, h3, List.mem_append_right _ h4⟩
  · rw [List.map_append]
    rcases List.mem_append.1 hid with h | h
    · exact List.mem_append_left _ (a1.2 id h)
    · exact List.mem_append_right _ (a2.2 id h)
theorem SOut.hu {s : SV} {x y : SArg} {p : List (Option Nat)} {v : Value} (h : SOut H s x p) (hs : SSame x y) (hc : s.con μ v) (r q : List (Option Nat)) (hm : y.made w' (owOf ω (r ++ p ++ q)) r.length v) : HuOk X w' μ ω p (huS s y) := by
  cases h with
  | c e => cases hs; exact ⟨fun q hq => by simp [huS] at hq, fun id hid => by cases hid⟩
  | nil d t e => cases hs; exact ⟨fun q hq => by simp [huS] at hq, fun id hid => by simp at hid⟩
  | @r _ d t id xs ys hH e =>
    cases hs
    obtain ⟨B, hR⟩ := hm
    refine ⟨fun q hq => ?_, fun id' hid => ?_⟩
    · rw [huS, List.mem_singleton] at hq
      subst hq
      exact ⟨v, _, hc.1, rfl, ⟨B, Kd.S_mono hR (fun k hk => by simpa [owOf] using hk)⟩, List.mem_cons_self⟩
    · simp at hid; subst hid; simp [huS]
theorem LOut.hu {s : List SV} {x : List SArg} {p : List (Option Nat)} (h : LOut H s x p) : ∀ {y : List SArg} {vs : List Value} (r q : List (Option Nat)), LSame x y → conL μ s vs → madeL w' (owOf ω (r ++ p ++ q)) r.length y vs → HuOk X w' μ ω p (huL s y) := by
  induction h with
  | nil => intro y vs r q hs _ _; cases hs; exact ⟨fun q hq => by simp [huL] at hq, fun id hid => by cases hid⟩
  | @cons s x l m p1 p2 h _ ih => intro y vs r q hs hc hm; cases hs with
    | cons h1 h2 => cases vs with
      | nil => exact hc.elim
      | cons v vs =>
        refine HuOk.app (h.hu h1 hc.1 r (p2 ++ q) (by simpa using hm.1)) (ih (r ++ p1) q h2 hc.2 ?_)
        have := hm.2
        rw [← h1.cnt, ← h.cnt] at this
        simpa using this
theorem AOut.hu {s : AV} {x y : Arg} {p : List (Option Nat)} {v : Value} (h : AOut H s x p) (hs : ASame x y) (hc : s.con μ v) (r q : List (Option Nat)) (hm : y.made w' (owOf ω (r ++ p ++ q)) r.length v) : HuOk X w' μ ω p (huA s y) := by
  cases h with
  | o h => cases hs with | o h1 => exact h.hu h1 hc r q hm
  | a h => cases hs with
    | a h1 =>
      obtain ⟨vs, e, hc⟩ := hc
      obtain ⟨us, e', hm⟩ := hm
      have : us = vs := by rw [e] at e'; injection e' with e'; simpa using e'.symm
      subst this
      exact h.hu r q h1 hc hm
theorem TOut.hu {s : List AV} {x : List Arg} {p : List (Option Nat)} (h : TOut H s x p) : ∀ {y : List Arg} {vs : List Value} (r q : List (Option Nat)), TSame x y → conV μ s vs → madeA w' (owOf ω (r ++ p ++ q)) r.length y vs → HuOk X w' μ ω p (huT s y) := by
  induction h with
  | nil => intro y vs r q hs _ _; cases hs; exact ⟨fun q hq => by simp [huT] at hq, fun id hid => by cases hid⟩
  | @cons s x l m p1 p2 h _ ih => intro y vs r q hs hc hm; cases hs with
    | cons h1 h2 => cases vs with
      | nil => exact hc.elim
      | cons v vs =>
        refine HuOk.app (h.hu h1 hc.1 r (p2 ++ q) (by simpa using hm.1)) (ih (r ++ p1) q h2 hc.2 ?_)
        have := hm.2
        rw [← h1.cnt, ← h.cnt] at this
        simpa using this
theorem TOut.cnt {s : List AV} {x : List Arg} {p : List (Option Nat)} (h : TOut H s x p) : p.length = cntA x := by
  induction h with
  | nil => rfl
  | cons h _ ih => rw [List.length_append, h.cnt, ih, cntA]
theorem owOf_get {p : List (Option Nat)} {j k : Nat} (h : owOf ω p j k) : ∃ id, p[j]? = some (some id) ∧ ω id k := by
  unfold owOf at h
  cases hp : p[j]? with
  | none => rw [hp] at h; exact h.elim
  | some x => cases x with
    | none => rw [hp] at h; exact h.elim
    | some id => rw [hp] at h; exact ⟨id, rfl, h⟩
theorem updL_mem {α : Type _} : ∀ (l : List (Nat × α)) (f : Nat → α) (k : Nat), k ∈ l.map (·.1) → (k, updL f l k) ∈ l
  | [], _, _, h => by cases h
  | (j, v) :: l, f, k, h => by
    by_cases hk : k ∈ l.map (·.1)
    · exact List.mem_cons_of_mem _ (updL_mem l _ k hk)
    · rw [List.map_cons, List.mem_cons] at h
      rcases h with e | h
      · subst e
        rw [updL, updL_ne l _ hk, upd_same]
        exact List.mem_cons_self
      · exact absurd h hk
/-- Rows that were written in their places. -/
theorem Sat.write {p : List (Option Nat)} {hu : List (Nat × Option AObj)} (h : Sat X σ μ ω a w) (hn : ∀ id, some id ∈ p → ∃ o, σ.H id = some o) (hk : Kp w w' (fun k => ∃ j, owOf ω p j k)) (hh : HuOk X w' μ ω p hu) : Sat X { σ with H := updL σ.H hu } μ ω a w' := by
  have hsz := hk.size
  refine h.gen rfl rfl hk (fun k ⟨j, hj⟩ => ?_) (Le.refl _) h.made (fun id => some id ∈ p) (fun id o ho => ?_) (fun i j hi hj hne _ _ k hki hkj => ?_) (fun _ _ => rfl)
  · obtain ⟨id, hid, hk⟩ := owOf_get hj
    obtain ⟨o, ho⟩ := hn id (List.mem_of_getElem? hid)
    exact (h.own id o ho k hk).1
  · by_cases hp : id ∈ hu.map (·.1)
    · have hm := updL_mem hu σ.H id hp
      obtain ⟨v, o', h1, h2, h3, h4⟩ := hh.1 _ hm
      simp only at h1 h2 h3 h4 ho
      rw [ho] at h2
      cases h2
      refine .inr ⟨h4, ⟨v, h1, h3⟩, fun k hk2 => ?_⟩
      obtain ⟨o0, ho0⟩ := hn id h4
      obtain ⟨j, hj⟩ := List.mem_iff_getElem?.1 h4
      exact ⟨.inl ⟨j, by unfold owOf; rw [hj]; exact hk2⟩, Nat.lt_of_lt_of_le (h.own id o0 ho0 k hk2).2 hsz⟩
    · have hnp : some id ∉ p := fun h' => hp (hh.2 id h')
      simp only [updL_ne hu σ.H hp] at ho
      refine .inl ⟨hnp, ho, rfl, fun k hk1 ⟨j, hj⟩ => ?_⟩
      obtain ⟨id', hid', hk'⟩ := owOf_get hj
      obtain ⟨o', ho'⟩ := hn id' (List.mem_of_getElem? hid')
      exact h.sep id id' o o' ho ho' (fun e => hnp (e ▸ List.mem_of_getElem? hid')) k hk1 hk'
  · obtain ⟨oi, hoi⟩ := hn i hi
    obtain ⟨oj, hoj⟩ := hn j hj
    exact h.sep i j oi oj hoi hoj hne k hki hkj
def snds : List (Nat × AV) → List AV
  | [] => []
  | (_, v) :: l => v :: snds l
theorem conP_snds : ∀ {r : List (Nat × AV)} {vs : List (Nat × Value)}, conP μ r vs → conV μ (snds r) (vs.map (·.2))
  | [], [], _ => trivial
  | _ :: _, _ :: _, h => ⟨h.2.1, conP_snds h.2.2⟩
  | [], _ :: _, h => h.elim
  | _ :: _, [], h => h.elim
/-- What is looked at: the rows' objects. -/
def phO (H : Hp) : List (Option Nat) → List (Nat × AObj)
  | [] => []
  | none :: l => phO H l
  | some id :: l => match H id with
    | some b => (id, b) :: phO H l
    | none => phO H l
theorem phO_fits : ∀ (p : List (Option Nat)), ∀ q ∈ phO H p, H q.1 = some q.2
  | [], q, h => by cases h
  | none :: l, q, h => phO_fits l q h
  | some id :: l, q, h => by
    unfold phO at h
    cases hH : H id with
    | none => rw [hH] at h; exact phO_fits l q h
    | some b =>
      rw [hH] at h
      rcases List.mem_cons.1 h with e | h
      · rw [e]; exact hH
      · exact phO_fits l q h
theorem phO_mem {id : Nat} {b : AObj} (hH : H id = some b) : ∀ {p : List (Option Nat)}, some id ∈ p → (id, b) ∈ phO H p
  | none :: l, h => phO_mem hH (p := l) (by simpa using h)
  | some id' :: l, h => by
    unfold phO
    rcases List.mem_cons.1 h with e | h
    · cases e; rw [hH]; exact List.mem_cons_self
    · cases hH' : H id' with
      | none => exact phO_mem hH h
      | some b' => exact List.mem_cons_of_mem _ (phO_mem hH h)
theorem SOut.of {H1 : Hp} {s : SV} {x : SArg} {p : List (Option Nat)} (h : SOut H s x p) (hp : ∀ id b, some id ∈ p → H id = some b → H1 id = some b) : SOut H1 s x p := by
  cases h with
  | c e => exact .c e
  | nil d t e => exact .nil d t e
  | r hH e => exact .r (hp _ _ List.mem_cons_self hH) e
theorem LOut.of {H1 : Hp} {s : List SV} {x : List SArg} {p : List (Option Nat)} (h : LOut H s x p) : (∀ id b, some id ∈ p → H id = some b → H1 id = some b) → LOut H1 s x p := by
  induction h with
  | nil => exact fun _ => .nil
  | cons h _ ih => exact fun hp => .cons (h.of (fun id b hm => hp id b (List.mem_append_left _ hm))) (ih (fun id b hm => hp id b (List.mem_append_right _ hm)))
theorem TOut.of {H1 : Hp} {s : List AV} {x : List Arg} {p : List (Option Nat)} (h : TOut H s x p) : (∀ id b, some id ∈ p → H id = some b → H1 id = some b) → TOut H1 s x p := by
  induction h with
  | nil => exact fun _ => .nil
  | cons h _ ih =>
    refine fun hp => .cons ?_ (ih (fun id b hm => hp id b (List.mem_append_right _ hm)))
    have hp1 := fun id b hm => hp id b (List.mem_append_left _ hm)
    cases h with
    | o h => exact .o (h.of hp1)
    | a h => exact .a (h.of hp1)
section
variable (hgo : GOn ops σ o lg) (hd : dstOk o.dst σ.n = true)
include hgo hd
theorem x_callW {f : Nat} {fn : Func} {xs : List Operand} {ts : Array TypeId} {avs : List (Nat × AV)} {args outs : List Arg} {r : Value} (hc : FnW P f args outs r) (hsame : TSame args outs) (ho : o.op = .call { callee := .value (.func f), args := xs.toArray, argTypes := ts })
    (hf : P.funcs[f]? = some fn) (hname : (fn.name == "runtime.NumGoroutine") = false) (hb : fn.body.isSome = true) (hx : opndL σ.F (numL xs) = some avs) (hm : TOut σ.H (snds avs) args (nmT (snds avs) args)) (h1 : onceB (nmT (snds avs) args) = true)
    (h : LX P X ops l (σ.app o.dst ⟨.o (.c r), huT (snds avs) outs, []⟩) (fun C => K ((⟨lg ++ lookL (numL xs) avs, phO σ.H (nmT (snds avs) args)⟩, ⟨.o (.c r), huT (snds avs) outs, []⟩) :: C))) : LX P X ops (o :: l) σ K :=
  Lx.run (h := h) (e := ⟨.o (.c r), huT (snds avs) outs, []⟩) hgo.1 hgo.2 (lookL_fits hx) (phO_fits _) no_mem (fun σ1 hn1 h1' h2 h3 μ ω a w hs1 K Q hK => by
    have hm1 : TOut σ1.H (snds avs) args (nmT (snds avs) args) := hm.of (fun id b hid hH => h2 _ (phO_mem hH hid))
    have hcon := conP_snds (hs1.evL (opndL_of hx h1'))
    rw [numL_map] at hcon
    have hmade := hm1.made hs1 [] [] hcon
    simp only [List.nil_append, List.append_nil, List.length_nil] at hmade
    have get : ∀ j k, owOf ω (nmT (snds avs) args) j k → ∃ id, (nmT (snds avs) args)[j]? = some (some id) ∧ ω id k := fun j k => owOf_get
    have hlt : ∀ j k, owOf ω (nmT (snds avs) args) j k → k < w.heap.size := fun j k hk => by
      obtain ⟨id, hid, hk⟩ := get j k hk
      obtain ⟨o, ho⟩ := hm1.names id (List.mem_of_getElem? hid)
      exact (hs1.own id o ho k hk).2
    have hdis : ∀ i j, i ≠ j → ∀ k, owOf ω (nmT (snds avs) args) i k → ¬ owOf ω (nmT (snds avs) args) j k := fun i j hij k hi hj => by
      obtain ⟨id, hid, hk⟩ := get i k hi
      obtain ⟨id', hid', hk'⟩ := get j k hj
      obtain ⟨o, ho⟩ := hm1.names id (List.mem_of_getElem? hid)
      obtain ⟨o', ho'⟩ := hm1.names id' (List.mem_of_getElem? hid')
      by_cases e : id = id'
      · subst e; exact hij (onceB_spec h1 i j id hid hid')
      · exact hs1.sep id id' o o' ho ho' e k hk hk'
    have he := PrintLast.enters_ hf hname hb (xs.map a.eval).toArray w
    have hrun : (execOp a.eval o).run P w = .ok (.enter f (xs.map a.eval).toArray) w := by
      unfold execOp
      simp [ho, resolve, Deferred.ofValue, invoke, Act.eval]
      simpa [Act.eval] using he
    unfold Oper.wp
    rw [hrun]
    refine (hc w _ _ hlt hdis hmade).mono (fun e w' hr => ?_)
    obtain ⟨rfl, hout, hkp⟩ := hr
    have hhu : HuOk X w' μ ω (nmT (snds avs) args) (huT (snds avs) outs) := hm1.hu [] [] hsame hcon (by simpa using hout)
    exact hK _ _ _ _ ((hs1.write hm1.names hkp hhu).put (av := .o (.c r)) (dstOk_spec (hn1 ▸ hd)) rfl))
end
end

/-! ### entering, leaving -/
section
variable {P : Program} {X : Cx} {σ : St} {μ : Mu} {ω : Om} {a : Act} {w w' : World} {ow : Om}
def ancS (ow : Om) (n j : Nat) : SArg → Value → List (Nat × Value × (Nat → Prop))
  | .c _, _ => []
  | .r _ _ _, v => [(n, v, ow j)]
def ancL (ow : Om) : Nat → Nat → List SArg → List Value → List (Nat × Value × (Nat → Prop))
  | n, j, s :: l, v :: vs => ancS ow n j s v ++ ancL ow (n + s.cnt) (j + s.cnt) l vs
  | _, _, _, _ => []
def ancG (ow : Om) (n j : Nat) : Arg → Value → List (Nat × Value × (Nat → Prop))
  | .o s, v => ancS ow n j s v
  | .a l, .agg vs => ancL ow n j l vs.toList
  | .a _, _ => []
def ancA (ow : Om) : Nat → Nat → List Arg → List Value → List (Nat × Value × (Nat → Prop))
  | n, j, s :: l, v :: vs => ancG ow n j s v ++ ancA ow (n + s.cnt) (j + s.cnt) l vs
  | _, _, _, _ => []
def Anc (μ : Mu) (ω : Om) (A : List (Nat × Value × (Nat → Prop))) : Prop := ∀ q ∈ A, μ q.1 = some q.2.1 ∧ ω q.1 = q.2.2
theorem ancS_of {s : SArg} {v : Value} {n j : Nat} (hc : (s.av n).con μ v) (hw : ∀ i, i < s.cnt → ω (n + i) = ow (j + i)) : Anc μ ω (ancS ow n j s v) := fun q hq => by
  cases s with
  | c u => cases hq
  | r d t xs =>
    rw [ancS, List.mem_singleton] at hq
    subst hq
    exact ⟨hc.1, hw 0 (by simp [SArg.cnt])⟩
theorem ancL_of : ∀ {l : List SArg} {vs : List Value} {n j : Nat}, conL μ (avL n l) vs → (∀ i, i < cntL l → ω (n + i) = ow (j + i)) → Anc μ ω (ancL ow n j l vs)
  | [], _, _, _, _, _ => fun q hq => by cases hq
  | _ :: _, [], _, _, _, _ => fun q hq => by cases hq
  | s :: l, v :: vs, n, j, hc, hw => fun q hq => by
    rcases List.mem_append.1 hq with hq | hq
    · exact ancS_of hc.1 (fun i hi => hw i (by simp [cntL]; omega)) q hq
    · exact ancL_of hc.2 (fun i hi => by have := hw (s.cnt + i) (by simp [cntL]; omega); rw [← Nat.add_assoc, ← Nat.add_assoc] at this; exact this) q hq
theorem ancG_of {s : Arg} {v : Value} {n j : Nat} (hc : (s.av n).con μ v) (hw : ∀ i, i < s.cnt → ω (n + i) = ow (j + i)) : Anc μ ω (ancG ow n j s v) := by
  cases s with
  | o s => exact ancS_of hc hw
  | a l =>
    obtain ⟨vs, rfl, hc⟩ := hc
    exact ancL_of (l := l) (vs := vs) hc hw
theorem ancA_of : ∀ {l : List Arg} {vs : List Value} {i0 n j : Nat}, conS μ i0 (avA i0 n l) vs → (∀ i, i < cntA l → ω (n + i) = ow (j + i)) → Anc μ ω (ancA ow n j l vs)
  | [], _, _, _, _, _, _ => fun q hq => by cases hq
  | _ :: _, [], _, _, _, _, _ => fun q hq => by cases hq
  | s :: l, v :: vs, i0, n, j, hc, hw => fun q hq => by
    rcases List.mem_append.1 hq with hq | hq
    · exact ancG_of hc.2.1 (fun i hi => hw i (by simp [cntA]; omega)) q hq
    · exact ancA_of hc.2.2 (fun i hi => by have := hw (s.cnt + i) (by simp [cntA]; omega); rw [← Nat.add_assoc, ← Nat.add_assoc] at this; exact this) q hq
theorem tv_av {s : Arg} {n : Nat} {v : Value} (h : (s.tv n).con μ v) : (s.av n).con μ v := by cases s <;> exact h
theorem conS_of : ∀ {l : List Arg} {vs : List Value} {i n : Nat}, conT μ (tvA n l) vs → conS μ i (avA i n l) vs
  | [], [], _, _, _ => trivial
  | s :: l, v :: vs, i, n, h => ⟨rfl, tv_av h.1, conS_of h.2⟩
  | [], _ :: _, _, _, h => h.elim
  | _ :: _, [], _, _, h => h.elim
theorem Sat.anchor {w0 : World} {S : Nat → Prop} {A : List (Nat × Value × (Nat → Prop))} (h : Sat ⟨w0, S, []⟩ σ μ ω a w) (hA : Anc μ ω A) : Sat ⟨w0, S, A⟩ σ μ ω a w := by
  refine ⟨h.kept, h.size, h.defers, h.slot, h.made, fun id o ho => ?_, h.own, h.sep, hA⟩
  obtain ⟨v, hv, hh⟩ := h.obj id o ho
  refine ⟨v, hv, ?_⟩
  cases o with
  | box t cs => exact hh
  | row d t xs => exact hh
  | ro d xs => exact hh
  | raw e sz n cap vs => exact hh
  | gen Φ st => exact hh
/-- The state at the start of a function that is handed rows of its own. -/
def St.enterW (n : Nat) (args : List Arg) : St := { F := assoc (avA 0 1000 args), H := updL (fun _ => none) (someL (objsA 1000 args)), D := updL (fun _ => false) (trueL (objsA 1000 args)), n := n }
theorem madeA_len : ∀ {l : List Arg} {vs : List Value} {j : Nat}, madeA w ow j l vs → vs.length = l.length
  | [], [], _, _ => rfl
  | _ :: _, _ :: _, _, h => by simp [madeA_len h.2]
  | [], _ :: _, _, h => h.elim
  | _ :: _, [], _, h => h.elim
theorem madeL_to : ∀ {l : List SArg} {vs : List Value} {n j : Nat} {m : List SArg}, madeL w ow j l vs → Anc μ ω (ancL ow n j l vs) → LSame l m → (∀ q ∈ objsL n m, σ.H q.1 = some q.2) → Sat X σ μ ω a w' → madeL w' ow j m vs
  | [], [], _, _, _, _, _, hs, _, _ => by cases hs; trivial
  | s :: l, v :: vs, n, j, _, h, hA, hs, ho, hsat => by
    cases hs with
    | @cons _ x _ m h1 h2 =>
      have e := h1.cnt
      refine ⟨?_, e ▸ madeL_to h.2 (fun q hq => hA q (List.mem_append_right _ hq)) h2 (fun q hq => ho q (List.mem_append_right _ (e ▸ hq))) hsat⟩
      cases h1 with
      | c u => exact h.1
      | r d t xs ys =>
        have hn := ho (n, .row d t ys) (List.mem_append_left _ (by simp [SArg.objs]))
        obtain ⟨u, hu, B, hR⟩ := hsat.obj n _ hn
        have ha := hA (n, v, ow j) (List.mem_append_left _ (by simp [ancS]))
        rw [ha.1] at hu
        cases hu
        have ha2 : ω n = ow j := ha.2
        exact ⟨B, by rw [← ha2]; exact hR⟩
  | [], _ :: _, _, _, _, h, _, _, _, _ => h.elim
  | _ :: _, [], _, _, _, h, _, _, _, _ => h.elim
theorem madeA_to : ∀ {l : List Arg} {vs : List Value} {n j : Nat} {m : List Arg}, madeA w ow j l vs → Anc μ ω (ancA ow n j l vs) → TSame l m → (∀ q ∈ objsA n m, σ.H q.1 = some q.2) → Sat X σ μ ω a w' → madeA w' ow j m vs
  | [], [], _, _, _, _, _, hs, _, _ => by cases hs; trivial
  | s :: l, v :: vs, n, j, _, h, hA, hs, ho, hsat => by
    cases hs with
    | @cons _ x _ m h1 h2 =>
      have e := h1.cnt
      refine ⟨?_, e ▸ madeA_to h.2 (fun q hq => hA q (List.mem_append_right _ hq)) h2 (fun q hq => ho q (List.mem_append_right _ (e ▸ hq))) hsat⟩
      cases h1 with
      | @o s y hh =>
        have h0 : madeL w ow j [s] [v] := ⟨h.1, trivial⟩
        have := madeL_to (n := n) (m := [y]) h0 (fun q hq => hA q (List.mem_append_left _ (by simpa [ancL, ancG] using hq))) (.cons hh .nil) (fun q hq => ho q (List.mem_append_left _ (by simpa [objsL, Arg.objs] using hq))) hsat
        exact this.1
      | @a l0 m0 hh =>
        obtain ⟨us, e', h0⟩ := h.1
        subst e'
        exact ⟨us, rfl, madeL_to h0 (fun q hq => hA q (List.mem_append_left _ (by simpa [ancG] using hq))) hh (fun q hq => ho q (List.mem_append_left _ hq)) hsat⟩
  | [], _ :: _, _, _, _, h, _, _, _, _ => h.elim
  | _ :: _, [], _, _, _, h, _, _, _, _ => h.elim
/-- The rows as they are to be at the end. -/
def Left (args outs : List Arg) (σ : St) : Prop := ∀ q ∈ objsA 1000 outs, σ.H q.1 = some q.2
def EndW (P : Program) (fn : Func) (args outs : List Arg) (r : Value) : Post
  | .normal, σ | .ret, σ => ∃ t, fn.results = #[.tmp t] ∧ σ.F t = some (.o (.c r)) ∧ Left args outs σ
  | _, _ => False
theorem fnW_of_ax {f : FuncId} {fn : Func} {c : Code} {args outs : List Arg} {r : Value} {n : Nat} (hf : P.funcs[f]? = some fn) (hb : fn.body = some c) (hnt : fn.ntmps = n) (hle : Nat.ble args.length n = true) (hsame : TSame args outs)
    (h : ∀ X : Cx, (∀ D ρ, ((objsA 1000 args).all fun q => D q.1 && Nat.beq (ρ q.1) q.1) = true → ancB X D ρ = true) → AX P X c (St.enterW n args) (EndW P fn args outs r)) : FnW P f args outs r := fun w vs ow h1 h2 hm => by
  have hlen := madeA_len hm
  have hle := Nat.le_of_ble_eq_true hle
  have h0 : Sat ⟨w, fun k => ∃ j, ow j k, []⟩ { F := fun _ => none, H := fun _ => none, D := fun _ => false, n := n } (fun _ => none) (fun _ => No_) { tmps := vs.toArray ++ Array.replicate (n - args.length) undef, defers := [] } w :=
    { kept := Kp.refl _ _, size := by simp [hlen]; omega, defers := rfl, slot := fun _ _ h => (by cases h), made := fun _ _ => rfl, obj := fun _ _ h => (by cases h), own := fun _ _ h => (by cases h), sep := fun _ _ _ _ h => (by cases h), anc := fun _ h => (by cases h) }
  obtain ⟨μ, ω, _, hc, hs, _, _, hw⟩ := axaddA (X := ⟨w, fun k => ∃ j, ow j k, []⟩) (b := 0) (ow := ow) (fun j k hk => .inl ⟨j, hk⟩) (fun j k hk => ⟨Nat.zero_le _, h1 j k hk⟩) h2 args (n := 1000) (j := 0) h0 (fun _ _ h => by cases h) hm (fun _ _ _ => rfl)
  have hcs := conS_of (i := 0) hc
  have hanc := ancA_of (ow := ow) (ω := ω) (j := 0) hcs hw
  have hs2 : Sat ⟨w, fun k => ∃ j, ow j k, ancA ow 1000 0 args vs⟩ (St.enterW n args) μ ω { tmps := vs.toArray ++ Array.replicate (n - args.length) undef, defers := [] } w := by
    have := hs.anchor hanc
    refine ⟨this.kept, this.size, this.defers, fun t av ht => ?_, this.made, this.obj, this.own, this.sep, this.anc⟩
    obtain ⟨v, _, hv, hcv⟩ := conS_get hcs (assoc_mem ht)
    have hlt : t < vs.length := (List.getElem?_eq_some_iff.1 (by simpa using hv)).1
    exact ⟨v, by rw [Array.getElem?_append_left (by simpa using hlt)]; simpa using hv, hcv⟩
  refine calls_of_ax (S := fun k => ∃ j, ow j k) (A := ancA ow 1000 0 args vs) (σ := St.enterW n args) (μ := μ) (ω := ω) hf hb (by rw [hnt]; simpa [hlen] using hs2) (ax_mono (h _ (fun D ρ hh => ?_)) ?_)
  · have keys : ∀ (l : List SArg) (vs : List Value) (n j : Nat), ∀ q ∈ ancL ow n j l vs, q.1 ∈ (objsL n l).map (·.1) := by
      intro l
      induction l with
      | nil => intro vs n j q hq; cases hq
      | cons s l ih =>
        intro vs n j q hq
        cases vs with
        | nil => cases hq
        | cons v vs =>
          rw [objsL, List.map_append]
          rcases List.mem_append.1 hq with hq | hq
          · refine List.mem_append_left _ ?_
            cases s with
            | c u => cases hq
            | r d t xs => rw [ancS, List.mem_singleton] at hq; subst hq; simp [SArg.objs]
          · exact List.mem_append_right _ (ih vs _ _ q hq)
    have keysA : ∀ (l : List Arg) (vs : List Value) (n j : Nat), ∀ q ∈ ancA ow n j l vs, q.1 ∈ (objsA n l).map (·.1) := by
      intro l
      induction l with
      | nil => intro vs n j q hq; cases hq
      | cons s l ih =>
        intro vs n j q hq
        cases vs with
        | nil => cases hq
        | cons v vs =>
          rw [objsA, List.map_append]
          rcases List.mem_append.1 hq with hq | hq
          · refine List.mem_append_left _ ?_
            cases s with
            | o s =>
              have := keys [s] [v] n j q (by simpa [ancL, ancG] using hq)
              simpa [objsL, Arg.objs] using this
            | a m => cases v <;> first | (cases hq; done) | exact keys m _ n j q hq
          · exact List.mem_append_right _ (ih vs _ _ q hq)
    rw [ancB, List.all_eq_true]
    intro q hq
    obtain ⟨o, ho, e⟩ := List.mem_map.1 (keysA args vs 1000 0 q hq)
    have := List.all_eq_true.1 hh o ho
    rw [e] at this
    exact this
  · intro e σ1 hE
    have main : ∀ t, fn.results = #[.tmp t] → σ1.F t = some (.o (.c r)) → Left args outs σ1 → ∀ μ ω a w1, Sat ⟨w, fun k => ∃ j, ow j k, ancA ow 1000 0 args vs⟩ σ1 μ ω a w1 → ∃ v, (results fn a.tmps).run P w1 = .ok v w1 ∧ (Ending.returned v = .returned r ∧ madeA w1 ow 0 outs vs ∧ Kp w w1 (fun k => ∃ j, ow j k)) := by
      intro t hr hF hL μ1 ω1 a1 w1 hs1
      obtain ⟨v, hv, hcv⟩ := hs1.slot t _ hF
      have e : v = r := hcv
      subst e
      exact ⟨v, by simp [results_eq, hr, Array.mapM_eq_mapM_toList, resG, hv], rfl, madeA_to hm hs1.anc hsame hL hs1, hs1.kept⟩
    cases e with
    | normal => obtain ⟨t, hr, hF, hL⟩ := hE; exact main t hr hF hL
    | ret => obtain ⟨t, hr, hF, hL⟩ := hE; exact main t hr hF hL
    | exit id => exact hE.elim
    | goto l => exact hE.elim
    | panic ch => exact hE.elim
    | outgrown => exact hE.elim
end
/-! Rows that the laws write full of numbers. -/
def markTo (f : Nat → Value) (cur : Array Value) (m : Nat) : Prop := ∀ c, c < m → cur[c]? = some (f c)
def mi (k0 : Int) (c : Nat) : Value := .int .i64 (k0 + c)
def mb (k0 : Int) (c : Nat) : Value := .int .u8 ((k0 + c) % 256)
def mt (k0 : Int) (c : Nat) : Value := .bool (decide ((k0 + c) % 3 = 0))
theorem markTo_zero (f : Nat → Value) (cur : Array Value) : markTo f cur 0 := fun c h => absurd h (Nat.not_lt_zero c)
theorem markTo_put {f : Nat → Value} {cur : Array Value} {m : Nat} {v : Value} (h : markTo f cur m) (hm : m < cur.size) (hv : f m = v) : markTo f (cur.setIfInBounds m v) (m + 1) := fun c hc => by
  rcases Nat.lt_succ_iff_lt_or_eq.1 hc with h1 | rfl
  · rw [Array.getElem?_setIfInBounds_ne (by omega)]; exact h c h1
  · rw [Array.getElem?_setIfInBounds_self_of_lt hm, hv]
/-- A slice over a block that was written full, from its first cell on. -/
def Marked (w : World) (v : Value) (n sz : Nat) (f : Nat → Value) : Prop := ∃ A c, v = .slice A n c ∧ (n = 0 ∨ ∃ g cur t, A = some ⟨g, 0, none⟩ ∧ w.heap[g]? = some (.cells cur t (0, 0)) ∧ markTo f cur (n * sz))
theorem Marked.kept {w w1 : World} {v : Value} {n sz : Nat} {f : Nat → Value} {S : Nat → Prop} (h : Marked w v n sz f) (hk : Kept w w1 S) (hs : ∀ k, v.ownBlock = some k → ¬ S k) : Marked w1 v n sz f := by
  obtain ⟨A, c, rfl, h⟩ := h
  refine ⟨A, c, rfl, ?_⟩
  rcases h with h | ⟨g, cur, t, rfl, hb, hm⟩
  · exact .inl h
  · exact .inr ⟨g, cur, t, rfl, blk_kept hb hk (hs g rfl), hm⟩
/-- An own row's block. -/
theorem row_block {α : Type} {d : Kd α} {e base : Nat} {w : World} {ok : Nat → Prop} {v : Value} {xs : List α} (h : d.R e w base ok v xs) :
    (v = .slice none 0 0 ∧ xs = []) ∨ ∃ g cap cur, v = .slice (some ⟨g, 0, none⟩) xs.length cap ∧ ok g ∧ base ≤ g ∧ w.heap[g]? = some (.cells cur e (0, 0)) ∧ xs.length * d.sz ≤ cur.size := by
  obtain ⟨h0, inner, ho, hr⟩ := h
  rcases ho.2 with ⟨rfl, h1⟩ | ⟨g, cap, cur, rfl, hg, hh, hc, hm, hs, _⟩
  · exact .inl ⟨rfl, List.length_eq_zero_iff.1 h1⟩
  · exact .inr ⟨g, cap, cur, rfl, h0 g rfl, hg, hh, by rw [hs]; exact Nat.mul_le_mul_right _ hc⟩
theorem kept_grown {w w1 : World} {row : Option Nat} (h : w.grownBy w1 row) : Kept w w1 (fun k => row = some k) := ⟨h.size, fun i hi hn => h.block i hi (fun e => hn e.symm)⟩
def MarkedTo (w : World) (g : Nat) (t : TypeId) (m : Nat) (f : Nat → Value) (w' : World) : Prop := w.grownBy w' (some g) ∧ ∃ cur, w'.heap[g]? = some (.cells cur t (0, 0)) ∧ m ≤ cur.size ∧ markTo f cur m
theorem below_of_grown {w w1 : World} {row : Option Nat} {b : Nat} (h : w.grownBy w1 row) (hb : b ≤ w.heap.size) (hr : ∀ k, row = some k → b ≤ k) : Below b w w1 := (Below.refl b w).grown h hb hr
theorem grown_set {w w1 : World} {g : Nat} (h : w.grownBy w1 (some g)) (i : Nat) (u : Value) : w.grownBy (w1.setCell ⟨g, i, none⟩ u) (some g) :=
  ⟨h.os, h.tape, h.output, by simpa [World.setCell] using h.size, fun k hk hne => (Below.heap_setCell w1 ⟨g, i, none⟩ u k (fun e => hne (by rw [e]))).trans (h.block k hk hne)⟩
/-- A block of cells, read as a row of the call's own. -/
theorem row_of_block {α : Type} {sz : Nat} {enc : α → List Value} {h : ∀ x, (enc x).length = sz} {h1 : ∀ x, ∀ u ∈ enc x, u.oneCell' = true} {w : World} {base g e : Nat} {ok : Nat → Prop} {cur : Array Value} {l : List α}
    (hb : w.heap[g]? = some (.cells cur e (0, 0))) (hg : base ≤ g) (hok : ok g) (hs : cur.size = l.length * sz) (hm : l.length ≤ 9223372036854775807)
    (hc : ∀ j x, l[j]? = some x → ∀ i u, (enc x)[i]? = some u → cur[j * sz + i]? = some u) : (flat sz enc h h1).R e w base ok (.slice (some ⟨g, 0, none⟩) l.length l.length) l := by
  refine ⟨fun k hk => by cases hk; exact hok, cur.toList, ⟨by rw [Array.length_toList]; exact hs, .inr ⟨g, l.length, cur, rfl, hg, hb, Nat.le_refl _, hm, hs, ?_⟩⟩, by rw [Array.length_toList]; exact hs, fun j x hj => ?_⟩
  · exact List.take_of_length_le (by rw [Array.length_toList, hs]; exact Nat.le_refl _)
  · show (cur.toList.drop (j * sz)).take sz = enc x
    have hjl : j < l.length := el_lt hj
    have hle : j * sz + sz ≤ cur.toList.length := by rw [Array.length_toList, hs, ← Nat.succ_mul]; exact Nat.mul_le_mul_right _ hjl
    apply List.ext_getElem?
    intro i
    rcases Nat.lt_or_ge i sz with hi | hi
    · have hu := List.getElem?_eq_getElem (show i < (enc x).length by rw [h]; exact hi)
      rw [List.getElem?_take_of_lt hi, List.getElem?_drop, hu, Array.getElem?_toList]
      exact hc j x hj i _ hu
    · rw [List.getElem?_eq_none (by rw [List.length_take]; omega), List.getElem?_eq_none (by rw [h]; exact hi)]
def putList : Array Value → Nat → List Value → Array Value
  | cu, _, [] => cu
  | cu, a, v :: vs => putList (cu.setIfInBounds a v) (a + 1) vs
theorem putList_size : ∀ (vs : List Value) (cu : Array Value) (a : Nat), (putList cu a vs).size = cu.size
  | [], _, _ => rfl
  | v :: vs, cu, a => by rw [putList, putList_size vs]; simp
theorem putList_lt : ∀ (vs : List Value) (cu : Array Value) (a c : Nat), c < a → (putList cu a vs)[c]? = cu[c]?
  | [], _, _, _, _ => rfl
  | v :: vs, cu, a, c, h => by rw [putList, putList_lt vs _ _ _ (by omega), Array.getElem?_setIfInBounds_ne (by omega)]
theorem putList_get : ∀ (vs : List Value) (cu : Array Value) (a i : Nat) (u : Value), a + vs.length ≤ cu.size → vs[i]? = some u → (putList cu a vs)[a + i]? = some u
  | [], _, _, _, _, _, h => by simp at h
  | v :: vs, cu, a, 0, u, hs, h => by
    simp at h hs
    subst h
    rw [putList, putList_lt vs _ _ _ (by omega), Nat.add_zero, Array.getElem?_setIfInBounds_self_of_lt (by omega)]
  | v :: vs, cu, a, i + 1, u, hs, h => by
    simp at h hs
    rw [putList, show a + (i + 1) = a + 1 + i by omega]
    exact putList_get vs _ _ i u (by simp; omega) h
def Filled {α : Type} (enc : α → List Value) (sz : Nat) (l : List α) (cu : Array Value) (k : Nat) : Prop := ∀ j x, j < k → l[j]? = some x → ∀ i u, (enc x)[i]? = some u → cu[j * sz + i]? = some u
theorem Filled.zero {α : Type} (enc : α → List Value) (sz : Nat) (l : List α) (cu : Array Value) : Filled enc sz l cu 0 := fun j _ h => absurd h (Nat.not_lt_zero j)
theorem Filled.put {α : Type} {enc : α → List Value} {sz : Nat} {l : List α} {cu : Array Value} {k : Nat} {x : α} (h : Filled enc sz l cu k) (he : ∀ x, (enc x).length = sz) (hx : l[k]? = some x) (hs : cu.size = l.length * sz) : Filled enc sz l (putList cu (k * sz) (enc x)) (k + 1) := by
  intro j y hj hy i u hu
  have hkl : k * sz + sz ≤ cu.size := by rw [hs, ← Nat.succ_mul]; exact Nat.mul_le_mul_right _ (el_lt hx)
  have hi : i < sz := by have := (List.getElem?_eq_some_iff.1 hu).1; rw [he] at this; exact this
  rcases Nat.lt_succ_iff_lt_or_eq.1 hj with h1 | rfl
  · rw [putList_lt _ _ _ _ (by have : j * sz + sz ≤ k * sz := by rw [← Nat.succ_mul]; exact Nat.mul_le_mul_right _ h1
                               omega)]
    exact h j y h1 hy i u hu
  · rw [hx] at hy
    cases hy
    exact putList_get _ _ _ _ _ (by rw [he]; exact hkl) hu
theorem make_row {P : Program} (t e : TypeId) (z : Value) (sz bytes : Nat) (ht : P.underlying t = some (.slice e)) (hinfo : (P.info? e).map (fun i => (i.zero, i.size, i.bytes)) = some (some z, sz, bytes)) (hb0 : 0 < bytes) (m : Nat) (hl : m * bytes ≤ 281474976710656) :
    ∃ cu : Array Value, cu.size = m * sz ∧ ∀ W : World, (Instr.makeSlice t (.int .i64 m) (.int .i64 m)).run P W = .ok (.slice (some ⟨W.heap.size, 0, none⟩) m m) (W.alloc (.cells cu e)) := by
  obtain ⟨i0, hi, hzz⟩ := Option.map_eq_some_iff.1 hinfo
  simp only [Prod.mk.injEq] at hzz
  obtain ⟨hz0, hz1, hz2⟩ := hzz
  have hm : m ≤ 281474976710656 := Nat.le_trans (Nat.le_mul_of_pos_right _ hb0) hl
  refine ⟨madeCells z.cells (m * sz), by simp [size_madeCells], fun W => ?_⟩
  have hr := run_make (P := P) W t e i0 z ht hi hz0 .i64 .i64 (m : Int) (m : Int) (by omega) (by omega)
    (by
      have h3 : ((i0.bytes * m : Nat) : Int) ≤ 281474976710656 := by rw [hz2, Nat.mul_comm]; omega
      rwa [Int.natCast_mul] at h3) (by omega)
  simp only [Int.toNat_natCast] at hr
  rw [hz1] at hr
  exact hr
/-! Stores into elements of rows of one's own; make. -/
theorem setL_app_right {β : Type} : ∀ (us a b : List β) (p : Nat), setL (a ++ b) (a.length + p) us = a ++ setL b p us
  | [], _, _, _ => rfl
  | u :: us, a, b, p => by
    rw [setL, setL, List.set_append_right _ _ (by omega), Nat.add_sub_cancel_left, Nat.add_assoc, setL_app_right us a]
theorem setL_app_left {β : Type} : ∀ (us a b : List β) (p : Nat), p + us.length ≤ a.length → setL (a ++ b) p us = setL a p us ++ b
  | [], _, _, _, _ => rfl
  | u :: us, a, b, p, h => by
    rw [List.length_cons] at h
    rw [setL, setL, List.set_append_left _ _ (by omega), setL_app_left us _ _ _ (by rw [List.length_set]; omega)]
theorem setL_take {β : Type} (us l : List β) (p n : Nat) (h : p + us.length ≤ n) (hn : n ≤ l.length) : (setL l p us).take n = setL (l.take n) p us := by
  have e : l = l.take n ++ l.drop n := (List.take_append_drop n l).symm
  have hl : (l.take n).length = n := by rw [List.length_take]; omega
  conv => lhs; rw [e]
  rw [setL_app_left _ _ _ _ (by omega), List.take_left' (by rw [setL_length]; exact hl)]
theorem setL_flatMap {α : Type} {enc : α → List Value} {sz : Nat} (hs : ∀ x, (enc x).length = sz) : ∀ (xs : List α) (ix off : Nat) (us : List Value) (y y' : α), xs[ix]? = some y → off + us.length ≤ sz → enc y' = setL (enc y) off us → setL (xs.flatMap enc) (ix * sz + off) us = (xs.set ix y').flatMap enc
  | x :: xs, 0, off, us, y, y', hy, hl, he => by
    simp at hy
    subst hy
    rw [Nat.zero_mul, Nat.zero_add, List.flatMap_cons, List.set_cons_zero, List.flatMap_cons, setL_app_left _ _ _ _ (by rw [hs]; exact hl), he]
  | x :: xs, ix + 1, off, us, y, y', hy, hl, he => by
    rw [List.flatMap_cons, List.set_cons_succ, List.flatMap_cons, ← setL_flatMap hs xs ix off us y y' (by simpa using hy) hl he, ← setL_app_right, hs, Nat.succ_mul]
    congr 1
    omega
  | [], _, _, _, _, _, hy, _, _ => by simp at hy
theorem reps_flat {α : Type} {R : α → List Value → Prop} {enc : α → List Value} {sz : Nat} (hR : ∀ x cs, R x cs → cs = enc x) : ∀ (xs : List α) (inner : List Value), Reps R sz xs inner → inner = xs.flatMap enc
  | [], inner, h => by have := h.1; simp at this; simp [this]
  | x :: xs, inner, h => by
    obtain ⟨h1, h2⟩ := h
    have hx := hR _ _ (h2 0 x rfl)
    rw [Nat.zero_mul, List.drop_zero] at hx
    have hrest := reps_flat (sz := sz) hR xs (inner.drop sz) ⟨by rw [List.length_drop, h1, List.length_cons, Nat.succ_mul]; omega, fun j p hj => by
      have := h2 (j + 1) p (by simpa using hj)
      rw [Nat.succ_mul, Nat.add_comm, ← List.drop_drop] at this
      exact this⟩
    rw [List.flatMap_cons, ← hx, ← hrest, List.take_append_drop]
theorem flatMap_length {α : Type} {enc : α → List Value} {sz : Nat} (hs : ∀ x, (enc x).length = sz) (xs : List α) : (xs.flatMap enc).length = xs.length * sz := flatMap_len hs xs
section
variable {P : Program} {X : Cx} {ops : Array Oper} {o : Oper} {l : List Oper} {σ : St} {K : List (Pre × Eff) → St → Prop} {lg : List (Nat × AV)} {μ : Mu} {ω : Om} {a : Act} {w w' : World} {α : Type} {d : Kd α} {enc : α → List Value} {dec : List SV → Option α} {xs ys : List α}
theorem R_put {e B ix : Nat} {own : Nat → Prop} {v : Value} {y : α} (hf : Flat d enc) (hR : d.R e w B own v xs) (hy : xs[ix]? = some y) :
    ∃ g cap cur, v = .slice (some ⟨g, 0, none⟩) xs.length cap ∧ own g ∧ w.heap[g]? = some (.cells cur e (0, 0)) ∧ ix * d.sz + d.sz ≤ cur.size ∧
      ∀ (w' : World) us off y', off + us.length ≤ d.sz → w'.heap[g]? = some (.cells (setL cur.toList (ix * d.sz + off) us).toArray e (0, 0)) → enc y' = setL (enc y) off us → d.R e w' B own v (xs.set ix y') := by
  obtain ⟨h0, inner, ho, hr⟩ := hR
  have hlt : ix < xs.length := (List.getElem?_eq_some_iff.1 hy).1
  have hin := reps_flat (enc := enc) (fun x cs h => (hf.2 _ _ _ _ _).1 h) xs inner hr
  rcases ho.2 with ⟨rfl, h1⟩ | ⟨g, cap, cur, rfl, hg, hh, hc, hm, hs, ht⟩
  · omega
  · have hle : ix * d.sz + d.sz ≤ xs.length * d.sz := by rw [← Nat.succ_mul]; exact Nat.mul_le_mul_right _ hlt
    have hcap : xs.length * d.sz ≤ cap * d.sz := Nat.mul_le_mul_right _ hc
    refine ⟨g, cap, cur, rfl, h0 g rfl, hh, by omega, fun w' us off y' hl hb he => ?_⟩
    have hflat := setL_flatMap hf.len xs ix off us y y' hy hl he
    have hlen : ((xs.set ix y').flatMap enc).length = (xs.set ix y').length * d.sz := flatMap_len hf.len _
    refine ⟨h0, (xs.set ix y').flatMap enc, ⟨hlen, .inr ⟨g, cap, _, by rw [List.length_set], hg, hb, by rw [List.length_set]; exact hc, hm, by simp [setL_length, hs], ?_⟩⟩, hlen, fun j x hj => (hf.2 _ _ _ _ _).2 (flatMap_at hf.len _ j x hj)⟩
    rw [List.length_set, ← hflat, ← hin, ← ht]
    have hcl : cur.toList.length = cap * d.sz := by rw [Array.length_toList, hs]
    exact setL_take us cur.toList _ _ (by omega) (by omega)
section
variable (hgo : GOn ops σ o lg) (hd : dstOk o.dst σ.n = true)
include hgo hd
/-- A store into an element of a row of one's own. -/
theorem Lx.storeE {t n e : Nat} {x z : Operand} {id ix off : Nat} {av : AV} {y y' : α} (hk : Flat d enc) (ho : o.op = .store t x z) (hx : opnd σ.F x = some (.o (.e id d.sz ix off))) (hz : opnd σ.F z = some av) (hH : σ.H id = some (.row d e xs)) (hy : xs[ix]? = some y) (h1 : av.one = true) (hn : (cellsOf av).length = n) (ht : sizeT P t n = true) (hle : off + n ≤ d.sz)
    (hset : setL ((enc y).map SV.c) off (cellsOf av) = (enc y').map SV.c)
    (h : LX P X ops l (σ.app o.dst ⟨.o (.c undef), [(id, some (.row d e (xs.set ix y')))], []⟩) (fun C => K ((⟨lg ++ (look x (.o (.e id d.sz ix off)) ++ look z av), [(id, .row d e xs)]⟩, ⟨.o (.c undef), [(id, some (.row d e (xs.set ix y')))], []⟩) :: C))) : LX P X ops (o :: l) σ K :=
  Lx.run (h := h) (e := ⟨.o (.c undef), [(id, some (.row d e (xs.set ix y')))], []⟩) hgo.1 hgo.2 (mem_app (look_fits hx) (look_fits hz)) (one_mem hH) no_mem (fun σ1 hn1 h2 h4 h3 μ ω a w hs1 K Q hK => by
    have hH1 : σ1.H id = some (.row d e xs) := h4 _ List.mem_cons_self
    obtain ⟨v, hv, B, hR⟩ := hs1.obj id _ hH1
    obtain ⟨g, cap, cur, rfl, hown, hb, hsz, hput⟩ := R_put hk (Kd.S_R hR) hy
    have hcc := cells_con (hs1.ev (opnd_of hz (app_r h2))) h1
    have hsize : (a.eval z).cells.size = n := by rw [← Array.length_toList, conL_len hcc.1, hn]
    obtain ⟨A, m, c, hm, hp⟩ := hs1.ev (opnd_of hx (app_l h2))
    rw [hv] at hm
    cases hm
    rw [add_plain] at hp
    simp only [Nat.zero_add] at hp
    obtain ⟨w', hr, hk', hb'⟩ := run_storeAt (P := P) (off := ix * d.sz + off) ht hsize hcc.2 hb (by omega)
    have hrun : (execOp a.eval o).run P w = .ok .skip w' := by
      unfold execOp
      simp [ho, hp, hr]
    have henc : enc y' = setL (enc y) off (a.eval z).cells.toList := by
      have := conL_setL off (conL_consts μ (enc y)) hcc.1
      rw [hset] at this
      exact (conL_eq this).symm
    have hlen : (a.eval z).cells.toList.length = n := by rw [Array.length_toList]; exact hsize
    unfold Oper.wp
    rw [hrun]
    exact hK _ _ _ _ ((hs1.set (id := id) (o1 := .row d e (xs.set ix y')) hH1 hv (hk'.mono (fun k hk => by rw [hk]; exact hown)) ⟨B, S_flat hk <| hput w' _ off y' (by omega) hb' henc⟩).put (av := .o (.c undef)) (dstOk_spec (hn1 ▸ hd)) rfl))
theorem x_storeE1 {t e : Nat} [ht : TPlain P t] [hk : KFlat d enc dec] {x z : Operand} {id ix off : Nat} {s : SV} {y y' : α} (ho : o.op = .store t x z) (hx : opnd σ.F x = some (.o (.e id d.sz ix off))) (hz : opnd σ.F z = some (.o s)) (hH : σ.H id = some (.row d e xs)) (hy : xs[ix]? = some y) (h1 : s.one = true) (hle : Nat.ble (off + 1) d.sz = true)
    (hdec : dec (setL ((enc y).map SV.c) off [s]) = some y')
    (h : LX P X ops l (σ.app o.dst ⟨.o (.c undef), [(id, some (.row d e (xs.set ix y')))], []⟩) (fun C => K ((⟨lg ++ (look x (.o (.e id d.sz ix off)) ++ look z (.o s)), [(id, .row d e xs)]⟩, ⟨.o (.c undef), [(id, some (.row d e (xs.set ix y')))], []⟩) :: C))) : LX P X ops (o :: l) σ K :=
  Lx.storeE hgo hd hk.f ho hx hz hH hy h1 rfl ht.s (Nat.le_of_ble_eq_true hle) (hk.d _ _ hdec) h
theorem x_storeEA {t e n : Nat} {pl : List (Nat × Nat)} {zs : List Value} [ht : TStruct P t n pl zs] [hk : KFlat d enc dec] {x z : Operand} {id ix off : Nat} {m : List SV} {y y' : α} (ho : o.op = .store t x z) (hx : opnd σ.F x = some (.o (.e id d.sz ix off))) (hz : opnd σ.F z = some (.a m)) (hH : σ.H id = some (.row d e xs)) (hy : xs[ix]? = some y) (h1 : m.all SV.one = true) (hm : m.length = n) (hle : Nat.ble (off + n) d.sz = true)
    (hdec : dec (setL ((enc y).map SV.c) off m) = some y')
    (h : LX P X ops l (σ.app o.dst ⟨.o (.c undef), [(id, some (.row d e (xs.set ix y')))], []⟩) (fun C => K ((⟨lg ++ (look x (.o (.e id d.sz ix off)) ++ look z (.a m)), [(id, .row d e xs)]⟩, ⟨.o (.c undef), [(id, some (.row d e (xs.set ix y')))], []⟩) :: C))) : LX P X ops (o :: l) σ K :=
  Lx.storeE hgo hd hk.f ho hx hz hH hy h1 hm (sizeT_of_agg ht.a) (Nat.le_of_ble_eq_true hle) (hk.d _ _ hdec) h
/-- make([]T, n). -/
theorem x_makeS {t e n by_ : Nat} {z : Value} [hs : TSlice P t e] [he : TElem P e n by_ z] [_ht : TKind P e α d] [hk : KFlat d enc dec] {x y : Operand} {m nid : Nat} {z0 : α} (hn : n = d.sz) (ho : o.op = .makeSlice t x y) (hx : opnd σ.F x = some (.o (.c (.int .i64 (m : Int))))) (hy : opnd σ.F y = some (.o (.c (.int .i64 (m : Int))))) (hz0 : dec (z.cells.toList.map SV.c) = some z0) (hl : m * by_ ≤ 140737488355328) (hid0 : o.dst = some nid) (hid : σ.D nid = false)
    (h : LX P X ops l (σ.app o.dst ⟨.o (.i nid), [(nid, some (.row d e (List.replicate m z0)))], [(nid, true)]⟩) (fun C => K ((⟨lg ++ (look x (.o (.c (.int .i64 (m : Int)))) ++ look y (.o (.c (.int .i64 (m : Int))))), []⟩, ⟨.o (.i nid), [(nid, some (.row d e (List.replicate m z0)))], [(nid, true)]⟩) :: C))) : LX P X ops (o :: l) σ K :=
  Lx.run (h := h) (ph := []) (e := ⟨.o (.i nid), [(nid, some (.row d e (List.replicate m z0)))], [(nid, true)]⟩) hgo.1 hgo.2 (mem_app (look_fits hx) (look_fits hy)) no_mem (one_mem hid) (fun σ1 hn1 h1 _ h3 μ ω a w hs1 K Q hK => by
    subst hn
    have hid1 : σ1.D nid = false := h3 _ List.mem_cons_self
    have ex := hs1.val (opnd_of hx (app_l h1))
    have ey := hs1.val (opnd_of hy (app_r h1))
    obtain ⟨i0, hi, hzz⟩ := Option.map_eq_some_iff.1 he.h
    simp only [Prod.mk.injEq] at hzz
    obtain ⟨hz1, hz2, hz3⟩ := hzz
    have hm : m ≤ 140737488355328 := Nat.le_trans (Nat.le_mul_of_pos_right _ he.b) hl
    have hr := run_make (P := P) w t e i0 z hs.h hi hz1 .i64 .i64 (m : Int) (m : Int) (by omega) (by omega)
      (by
        have h3 : ((i0.bytes * m : Nat) : Int) ≤ 281474976710656 := by rw [hz3, Nat.mul_comm]; omega
        rwa [Int.natCast_mul] at h3) (by omega)
    simp only [Int.toNat_natCast] at hr
    rw [hz2] at hr
    have hrun : (execOp a.eval o).run P w = .ok (.value (.slice (some ⟨w.heap.size, 0, none⟩) m m)) (w.alloc (.cells (madeCells z.cells (m * d.sz)) e)) := by
      unfold execOp
      simp [ho, ex, ey, hr]
    have henc : z.cells.toList = enc z0 := by
      have h5 := hk.d _ _ hz0
      have h6 := conL_consts μ z.cells.toList
      rw [h5] at h6
      exact conL_eq h6
    have hcells : madeCells z.cells (m * d.sz) = ((List.replicate m z0).flatMap enc).toArray := by
      have hrep : ∀ k, (List.replicate k z0).flatMap enc = zrep k z.cells.toList := by
        intro k
        induction k with
        | zero => rfl
        | succ k ih => rw [List.replicate_succ, List.flatMap_cons, ih, zrep, henc]
      rw [hrep]
      have := zrep_eq (len := m) he.c he.n
      by_cases h0 : m * d.sz = 0
      · have hm0 : m = 0 := by rcases Nat.mul_eq_zero.1 h0 with h | h; exact h; have := he.n; omega
        subst hm0
        simp [madeCells, zrep]
      · simp only [h0, if_false] at this
        apply Array.ext'
        rw [← this]
        rfl
    have hrow := row_of_cells (w := w.alloc (.cells (madeCells z.cells (m * d.sz)) e)) (d := d) (g := w.heap.size) (e := e) (base := w.heap.size) (ok := fun k => k = w.heap.size) (xs := List.replicate m z0) hk.f (by rw [← hcells]; exact blk_new _ _) (Nat.le_refl _) rfl (by simp; omega)
    rw [List.length_replicate] at hrow
    unfold Oper.wp
    rw [hrun]
    refine hK _ _ _ _ ((hs1.new (id := nid) (o := .row d e (List.replicate m z0)) (v := .slice (some ⟨w.heap.size, 0, none⟩) m m) (own := fun k => k = w.heap.size) hid1 (Kp.alloc w _) ⟨w.heap.size, S_flat hk.f hrow⟩ (fun k hk => ?_)).put (av := .o (.i nid)) (dstOk_spec (hn1 ▸ hd)) ⟨upd_same _ _ _, rfl⟩)
    subst hk; simp)
end
end
/-! Lists that are filled from the front. -/
section
variable {α : Type} {l : List α} {k : Nat} {x z : α} {f : Nat → α}
theorem fill_len (h : k ≤ l.length) : (l.take k ++ List.replicate (l.length - k) z).length = l.length := by simp; omega
theorem fill_get (h : k < l.length) : (l.take k ++ List.replicate (l.length - k) z)[k]? = some z := by
  rw [List.getElem?_append_right (by simp; omega), List.getElem?_replicate]
  simp; omega
theorem fill_step (h : l[k]? = some x) : (l.take k ++ List.replicate (l.length - k) z).set k x = l.take (k + 1) ++ List.replicate (l.length - (k + 1)) z := by
  have hk := (List.getElem?_eq_some_iff.1 h).1
  have e : l.length - k = (l.length - (k + 1)) + 1 := by omega
  have e2 : l.take (k + 1) = l.take k ++ [x] := by
    obtain ⟨hl, rfl⟩ := List.getElem?_eq_some_iff.1 h
    rw [List.take_succ_eq_append_getElem hl]
  rw [e, List.replicate_succ, List.set_append_right _ _ (by simp; omega), e2, List.append_assoc]
  congr 1
  simp [Nat.min_eq_left (Nat.le_of_lt hk)]
theorem mark_len (h : k ≤ l.length) : ((List.range k).map f ++ l.drop k).length = l.length := by simp; omega
theorem mark_get (h : l[k]? = some x) : ((List.range k).map f ++ l.drop k)[k]? = some x := by
  rw [List.getElem?_append_right (by simp), List.length_map, List.length_range, List.getElem?_drop]
  simpa using h
theorem mark_step (h : l[k]? = some x) : ((List.range k).map f ++ l.drop k).set k (f k) = (List.range (k + 1)).map f ++ l.drop (k + 1) := by
  have hk := (List.getElem?_eq_some_iff.1 h).1
  rw [List.set_append_right _ _ (by simp), List.length_map, List.length_range, Nat.sub_self, List.drop_eq_getElem_cons hk, List.set_cons_zero, List.range_succ, List.map_append, List.append_assoc]
  rfl
end
/-! Further operations: parts of tuples. -/
def TV.av : TV → AV
  | .o s => .o s
  | .a l => .a l
theorem conT_get {μ : Mu} : ∀ {l : List TV} {vs : List Value} {i : Nat} {t : TV}, conT μ l vs → l[i]? = some t → ∃ v, vs[i]? = some v ∧ t.av.con μ v
  | t :: l, v :: vs, 0, t', h, e => by
    obtain rfl : t = t' := by simpa using e
    refine ⟨v, rfl, ?_⟩
    cases t <;> exact h.1
  | t :: l, v :: vs, i + 1, t', h, e => by
    obtain ⟨u, hu, hc⟩ := conT_get h.2 (by simpa using e)
    exact ⟨u, by simpa using hu, hc⟩
  | [], _, _, _, _, e => by simp at e
  | _ :: _, [], _, _, h, _ => h.elim
section
variable {P : Program} {X : Cx} {ops : Array Oper} {o : Oper} {l : List Oper} {σ : St} {K : List (Pre × Eff) → St → Prop} {lg : List (Nat × AV)}
theorem Lx.extract (hgo : GOn ops σ o lg) (hd : dstOk o.dst σ.n = true) {x : Operand} {i : Nat} {ts : List TV} {t : TV} (ho : o.op = .extract x i) (hx : opnd σ.F x = some (.t ts)) (ht : ts[i]? = some t) (h : LX P X ops l (σ.app o.dst ⟨t.av, [], []⟩) (fun C => K ((⟨lg ++ look x (.t ts), []⟩, ⟨t.av, [], []⟩) :: C))) : LX P X ops (o :: l) σ K :=
  Lx.val (h := h) hgo.1 hgo.2 hd (look_fits hx) no_mem (fun σ1 h1 _ μ ω a w hs => by
    obtain ⟨vs, e1, hc⟩ := hs.ev (opnd_of hx h1)
    obtain ⟨v, hv, hcv⟩ := conT_get hc ht
    refine ⟨v, ?_, hcv⟩
    unfold execOp
    simp [ho, e1, Instr.extract, hv])
end
section
variable {P : Program} {X : Cx} {σ : St} {Q : Post} {x y z : Code}
theorem ax_seqR {id k : Nat} {ops : Array Oper} {b : Bool} (hne : Nat.beq id k = false) (h : AX P X (.region id ops b) σ (Post.then_ (fun σ1 => AX P X y σ1 Q) Q)) : AX P X (.seq (.region id ops b) y) σ Q := ax_seq h
theorem ax_seqS (h : AX P X (.seq x z) σ (Post.then_ (fun σ1 => AX P X y σ1 Q) Q)) : AX P X (.seq (.seq x z) y) σ Q := ax_seq h
theorem ax_seqC {o : Operand} (h : AX P X (.cond o x z) σ (Post.then_ (fun σ1 => AX P X y σ1 Q) Q)) : AX P X (.seq (.cond o x z) y) σ Q := ax_seq h
theorem ax_seqB {id : Nat} (h : AX P X (.block id x) σ (Post.then_ (fun σ1 => AX P X y σ1 Q) Q)) : AX P X (.seq (.block id x) y) σ Q := ax_seq h
end
/-! Kinds of rows that are told by their cells. -/
def decAgg : List SV → Option Agg
  | [.c (.int .i64 a0), .c (.int .i64 a1), .c (.int .i64 a2), .c (.int .i64 a3), .c (.int .i64 a4), .c (.int .i64 a5)] => some ⟨a0, a1, a2, a3, a4, a5⟩
  | _ => none
instance : KFlat kAgg Agg.enc decAgg := ⟨flat_flat, fun cs x h => by
  unfold decAgg at h
  split at h
  · cases h; rfl
  · cases h⟩
def decFrame : List SV → Option Frame
  | [.c (.int .i64 a0), .c (.int .i64 a1), .c (.int .i64 a2), .c (.int .i64 a3)] => some ⟨a0, a1, a2, a3⟩
  | _ => none
instance : KFlat kFrame Frame.enc decFrame := ⟨flat_flat, fun cs x h => by
  unfold decFrame at h
  split at h
  · cases h; rfl
  · cases h⟩
def decSlot : List SV → Option Slot
  | [.c (.int .i64 a0), .c (.int .i64 a1)] => some ⟨a0, a1⟩
  | _ => none
instance : KFlat kSlot Slot.enc decSlot := ⟨flat_flat, fun cs x h => by
  unfold decSlot at h
  split at h
  · cases h; rfl
  · cases h⟩
def decPair : List SV → Option Pair
  | [.c (.int .i64 a0), .c (.int .i64 a1), .c (.int .i64 a2), .c (.int .i64 a3), .c (.int .i64 a4)] => some ⟨a0, a1, a2, a3, a4⟩
  | _ => none
instance : KFlat kPair Pair.enc decPair := ⟨flat_flat, fun cs x h => by
  unfold decPair at h
  split at h
  · cases h; rfl
  · cases h⟩
def decSession : List SV → Option Session
  | [.c (.int .i64 a0), .c (.int .i64 a1), .c (.int .i64 a2), .c (.int .i64 a3), .c (.int .i64 a4)] => some ⟨a0, a1, a2, a3, a4⟩
  | _ => none
instance : KFlat kSession Session.enc decSession := ⟨flat_flat, fun cs x h => by
  unfold decSession at h
  split at h
  · cases h; rfl
  · cases h⟩
def decI : List SV → Option Int
  | [.c (.int .i64 a)] => some a
  | _ => none
instance : KFlat (Kd.int .i64) (fun x => [Value.int .i64 x]) decI := ⟨flat_scalar, fun cs x h => by
  unfold decI at h
  split at h
  · cases h; rfl
  · cases h⟩
def decB : List SV → Option Int
  | [.c (.int .u8 a)] => some a
  | _ => none
instance : KFlat (Kd.int .u8) (fun x => [Value.int .u8 x]) decB := ⟨flat_scalar, fun cs x h => by
  unfold decB at h
  split at h
  · cases h; rfl
  · cases h⟩
def decT : List SV → Option Bool
  | [.c (.bool a)] => some a
  | _ => none
instance : KFlat Kd.bool (fun x => [Value.bool x]) decT := ⟨flat_scalar, fun cs x h => by
  unfold decT at h
  split at h
  · cases h; rfl
  · cases h⟩
end Go.Proofs.Ytplcjkgbjapbmaa.C
