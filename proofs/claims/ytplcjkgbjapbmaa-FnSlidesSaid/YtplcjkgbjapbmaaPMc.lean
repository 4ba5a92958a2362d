import Derived.Test.YtplcjkgbjapbmaaUp
import Derived.Test.YtplcjkgbjapbmaaPMb
namespace Go.Proofs.Ytplcjkgbjapbmaa.C
open Go.RowKit Go.Proofs.YtplcjkgbjapbmaaW Go.Proofs.YtplcjkgbjapbmaaW.PrintWords Go.Proofs.Ytplcjkgbjapbmaa.U
set_option maxHeartbeats 1000000
set_option maxRecDepth 100000
set_option linter.unusedVariables false
set_option linter.unusedSimpArgs false
/-! Functions that are handed boxes and rows by name, and hand some back. -/
/-- What an argument holds: a value over names, or a row that is only read. -/
inductive GS : Type 1 where
  | vl (s : SV)
  | r {α : Type} (d : Kd α) (xs : List α)
inductive GA : Type 1 where
  | o (s : GS)
  | a (l : List GS)
/-- A state's memory. -/
structure Mem (X : Cx) (H : Hp) (μ : Mu) (ω : Om) (w : World) : Prop where
  kept : Kp X.w0 w X.S
  obj : ∀ id o, H id = some o → ∃ v, μ id = some v ∧ o.holds X w μ v (ω id)
  own : ∀ id o, H id = some o → ∀ k, ω id k → (X.S k ∨ X.w0.heap.size ≤ k) ∧ k < w.heap.size
  sep : ∀ i j oi oj, H i = some oi → H j = some oj → i ≠ j → ∀ k, ω i k → ¬ ω j k
def S0 (ω : Om) (H0 : List (Nat × AObj)) : Nat → Prop := fun k => ∃ id o, assoc H0 id = some o ∧ ω id k
def GS.ok (w : World) (S : Nat → Prop) (μ : Mu) : GS → Value → Prop
  | .vl s, v => s.con μ v
  | .r d xs, v => ∃ A c, v = .slice A xs.length c ∧ xs.length ≤ c ∧ ∀ W, Kp w W S → d.C W A xs.length xs
def gokL (w : World) (S : Nat → Prop) (μ : Mu) : List GS → List Value → Prop
  | [], [] => True
  | s :: l, v :: vs => s.ok w S μ v ∧ gokL w S μ l vs
  | _, _ => False
def GA.ok (w : World) (S : Nat → Prop) (μ : Mu) : GA → Value → Prop
  | .o s, v => s.ok w S μ v
  | .a l, v => ∃ vs : List Value, v = .agg vs.toArray ∧ gokL w S μ l vs
def gokA (w : World) (S : Nat → Prop) (μ : Mu) : List GA → List Value → Prop
  | [], [] => True
  | s :: l, v :: vs => s.ok w S μ v ∧ gokA w S μ l vs
  | _, _ => False
def isRo : AObj → Bool
  | .ro _ _ => true
  | _ => false
def keptB (H0 H1 : List (Nat × AObj)) (id : Nat) : Bool := match assoc H0 id with
  | some o => isRo o || memB (keys H1) id
  | none => false
/-- f, handed args and the objects H0, answers r and leaves the objects H1. -/
def FnS (P : Program) (f : FuncId) (args : List GA) (H0 : List (Nat × AObj)) (r : AV) (H1 : List (Nat × AObj)) : Prop :=
  ∀ w vs μ ω, Mem ⟨w, S0 ω H0, []⟩ (assoc H0) μ ω w → gokA w (S0 ω H0) μ args vs → Calls P f vs.toArray w (fun e w' => ∃ v μ' ω', e = .returned v ∧ r.con μ' v ∧ Mem ⟨w, S0 ω H0, []⟩ (assoc H1) μ' ω' w' ∧ ∀ id, keptB H0 H1 id = true → μ' id = μ id ∧ ω' id = ω id)
/-! ### names that are looked at -/
theorem map_on {μ ν : Mu} {D : Nat → Bool} (h : ∀ id v, D id = true → μ id = some v → ν id = some v) : ∀ {l : List Nat} {vs : List Value}, l.all D = true → l.map μ = vs.map some → l.map ν = vs.map some
  | [], [], _, _ => rfl
  | i :: l, v :: vs, hd, e => by
    rw [List.all_cons, Bool.and_eq_true] at hd
    simp only [List.map_cons, List.cons.injEq] at e ⊢
    exact ⟨h _ _ hd.1 e.1, map_on h hd.2 e.2⟩
  | [], _ :: _, _, e => by simp at e
  | _ :: _, [], _, e => by simp at e
theorem SV.con_on {μ ν : Mu} {D : Nat → Bool} (h : ∀ id v, D id = true → μ id = some v → ν id = some v) {s : SV} {v : Value} (hd : s.ok D = true) (hc : s.con μ v) : s.con ν v := by
  cases s with
  | c u => exact hc
  | i id => exact ⟨h _ _ hd hc.1, hc.2⟩
  | p id off => obtain ⟨g, h1, h2⟩ := hc; exact ⟨g, h _ _ hd h1, h2⟩
  | e id sz ix off => obtain ⟨A, n, c, h1, h2⟩ := hc; exact ⟨A, n, c, h _ _ hd h1, h2⟩
  | s id sz lo n => obtain ⟨A, N, c, h1, h2⟩ := hc; exact ⟨A, N, c, h _ _ hd h1, h2⟩
  | f fn l => obtain ⟨vs, h1, h2⟩ := hc; exact ⟨vs, map_on h hd h1, h2⟩
theorem conL_on {μ ν : Mu} {D : Nat → Bool} (h : ∀ id v, D id = true → μ id = some v → ν id = some v) : ∀ {l : List SV} {vs : List Value}, l.all (SV.ok D) = true → conL μ l vs → conL ν l vs
  | [], [], _, _ => trivial
  | _ :: _, _ :: _, hd, hc => by
    rw [List.all_cons, Bool.and_eq_true] at hd
    exact ⟨SV.con_on h hd.1 hc.1, conL_on h hd.2 hc.2⟩
  | [], _ :: _, _, hc => hc.elim
  | _ :: _, [], _, hc => hc.elim
theorem TV.con_on {μ ν : Mu} {D : Nat → Bool} (h : ∀ id v, D id = true → μ id = some v → ν id = some v) {s : TV} {v : Value} (hd : s.ok D = true) (hc : s.con μ v) : s.con ν v := by
  cases s with
  | o s => exact SV.con_on h hd hc
  | a l => obtain ⟨vs, e, hc⟩ := hc; exact ⟨vs, e, conL_on h hd hc⟩
theorem conT_on {μ ν : Mu} {D : Nat → Bool} (h : ∀ id v, D id = true → μ id = some v → ν id = some v) : ∀ {l : List TV} {vs : List Value}, l.all (TV.ok D) = true → conT μ l vs → conT ν l vs
  | [], [], _, _ => trivial
  | _ :: _, _ :: _, hd, hc => by
    rw [List.all_cons, Bool.and_eq_true] at hd
    exact ⟨TV.con_on h hd.1 hc.1, conT_on h hd.2 hc.2⟩
  | [], _ :: _, _, hc => hc.elim
  | _ :: _, [], _, hc => hc.elim
theorem AV.con_on {μ ν : Mu} {D : Nat → Bool} (h : ∀ id v, D id = true → μ id = some v → ν id = some v) {s : AV} {v : Value} (hd : s.ok D = true) (hc : s.con μ v) : s.con ν v := by
  cases s with
  | o s => exact SV.con_on h hd hc
  | a l => obtain ⟨vs, e, hc⟩ := hc; exact ⟨vs, e, conL_on h hd hc⟩
  | t l => obtain ⟨vs, e, hc⟩ := hc; exact ⟨vs, e, conT_on h hd hc⟩
  | x => trivial
theorem AObj.holds_on {X : Cx} {w : World} {μ ν : Mu} {D : Nat → Bool} (h : ∀ id v, D id = true → μ id = some v → ν id = some v) {o : AObj} {v : Value} {own : Nat → Prop} (hd : o.ok D = true) (hc : o.holds X w μ v own) : o.holds X w ν v own := by
  cases o with
  | box t cs => obtain ⟨g, vs, h1, h2, h3, h4, h5⟩ := hc; exact ⟨g, vs, h1, h2, h3, conL_on h hd h4, h5⟩
  | row d t xs => exact hc
  | ro d xs => exact hc
  | raw e sz n cap vs => exact hc
  | gen Φ st => exact hc
/-- Another context. -/
theorem AObj.holds_cx {X Y : Cx} {w : World} {μ : Mu} {o : AObj} {v : Value} {own : Nat → Prop} (h : ∀ W, Kp Y.w0 W Y.S → Kp X.w0 W X.S) (hc : o.holds X w μ v own) : o.holds Y w μ v own := by
  cases o with
  | box t cs => exact hc
  | row d t xs => exact hc
  | ro d xs => obtain ⟨h0, A, c, h1, h2, h3⟩ := hc; exact ⟨h0, A, c, h1, h2, fun W hW => h3 W (h W hW)⟩
  | raw e sz n cap vs => exact hc
  | gen Φ st => exact hc
/-! ### entering -/
def GS.cnt : GS → Nat
  | .vl _ => 0
  | .r _ _ => 1
def gcntL : List GS → Nat
  | [] => 0
  | s :: l => s.cnt + gcntL l
def GA.cnt : GA → Nat
  | .o s => s.cnt
  | .a l => gcntL l
def gcntA : List GA → Nat
  | [] => 0
  | s :: l => s.cnt + gcntA l
def GS.av (n : Nat) : GS → SV
  | .vl s => s
  | .r _ _ => .i n
def gavL : Nat → List GS → List SV
  | _, [] => []
  | n, s :: l => s.av n :: gavL (n + s.cnt) l
def GA.av (n : Nat) : GA → AV
  | .o s => .o (s.av n)
  | .a l => .a (gavL n l)
def gavA : Nat → Nat → List GA → List (Nat × AV)
  | _, _, [] => []
  | i, n, s :: l => (i, s.av n) :: gavA (i + 1) (n + s.cnt) l
def GS.ros (n : Nat) : GS → List (Nat × AObj)
  | .vl _ => []
  | .r d xs => [(n, .ro d xs)]
def grosL : Nat → List GS → List (Nat × AObj)
  | _, [] => []
  | n, s :: l => s.ros n ++ grosL (n + s.cnt) l
def GA.ros (n : Nat) : GA → List (Nat × AObj)
  | .o s => s.ros n
  | .a l => grosL n l
def grosA : Nat → List GA → List (Nat × AObj)
  | _, [] => []
  | n, s :: l => s.ros n ++ grosA (n + s.cnt) l
def GS.okN (D : Nat → Bool) : GS → Bool
  | .vl s => s.ok D
  | .r _ _ => true
def GA.okN (D : Nat → Bool) : GA → Bool
  | .o s => s.okN D
  | .a l => l.all (GS.okN D)
theorem GS.ros_lt (s : GS) (n : Nat) : ∀ q ∈ s.ros n, q.1 < n + s.cnt := by
  cases s with
  | vl s => intro q hq; cases hq
  | r d xs => intro q hq; rw [GS.ros, List.mem_singleton] at hq; subst hq; simp [GS.cnt]
theorem grosL_lt : ∀ (l : List GS) (n : Nat), ∀ q ∈ grosL n l, q.1 < n + gcntL l
  | [], _, q, hq => by cases hq
  | s :: l, n, q, hq => by
    rcases List.mem_append.1 hq with hq | hq
    · have := GS.ros_lt s n q hq; simp [gcntL]; omega
    · have := grosL_lt l _ q hq; simp [gcntL]; omega
theorem GA.ros_lt (s : GA) (n : Nat) : ∀ q ∈ s.ros n, q.1 < n + s.cnt := by
  cases s with
  | o s => exact GS.ros_lt s n
  | a l => exact grosL_lt l n
section
variable {P : Program} {X : Cx} {σ : St} {μ μ0 : Mu} {ω : Om} {a : Act} {w : World} {D : Nat → Bool}
/-- More names than before, those of before as they were. -/
def Grew (μ μ1 : Mu) (ω ω1 : Om) : Prop := ∀ id v, μ id = some v → μ1 id = some v ∧ ω1 id = ω id
theorem Grew.refl (μ : Mu) (ω : Om) : Grew μ μ ω ω := fun _ _ h => ⟨h, rfl⟩
theorem Grew.trans {μ μ1 μ2 : Mu} {ω ω1 ω2 : Om} (h : Grew μ μ1 ω ω1) (k : Grew μ1 μ2 ω1 ω2) : Grew μ μ2 ω ω2 := fun id v hv => ⟨(k id v (h id v hv).1).1, ((k id v (h id v hv).1).2).trans (h id v hv).2⟩
theorem Grew.le {μ μ1 : Mu} {ω ω1 : Om} (h : Grew μ μ1 ω ω1) : Le μ μ1 := fun id v hv => (h id v hv).1
theorem GS.come {s : GS} {v : Value} {n : Nat} (hD : ∀ id v, D id = true → μ0 id = some v → μ id = some v) (hX : X.w0 = w) (hs : Sat X σ μ ω a w) (hm : s.ok w X.S μ0 v) (hk : s.okN D = true) (hf : freeD σ n s.cnt) : ∃ μ1 ω1, Grew μ μ1 ω ω1 ∧ (s.av n).con μ1 v ∧ Sat X (σ.adds (s.ros n)) μ1 ω1 a w := by
  cases s with
  | vl s => exact ⟨μ, ω, Grew.refl _ _, SV.con_on hD hk hm, hs⟩
  | r d xs =>
    obtain ⟨A, c, rfl, hl, hC⟩ := hm
    have hid : σ.D n = false := hf n (Nat.le_refl _) (by simp [GS.cnt])
    have h0 := hs.made n hid
    refine ⟨upd μ n (some _), upd ω n No_, fun id u hu => ?_, ⟨upd_same _ _ _, rfl⟩, hs.add hid ⟨fun _ h => h, A, c, rfl, hl, fun W hk => hC W (by rw [hX] at hk; exact hk)⟩ (fun k hk => hk.elim) (fun _ _ _ _ _ hk => hk.elim)⟩
    have hne : id ≠ n := fun e => by rw [e, h0] at hu; cases hu
    exact ⟨by rw [upd_ne _ hne]; exact hu, upd_ne _ hne _⟩
theorem gcomeL (hX : X.w0 = w) : ∀ (l : List GS) {vs : List Value} {n : Nat} {σ : St} {μ : Mu} {ω : Om}, (∀ id v, D id = true → μ0 id = some v → μ id = some v) → Sat X σ μ ω a w → gokL w X.S μ0 l vs → l.all (GS.okN D) = true → freeD σ n (gcntL l) → ∃ μ1 ω1, Grew μ μ1 ω ω1 ∧ conL μ1 (gavL n l) vs ∧ Sat X (σ.adds (grosL n l)) μ1 ω1 a w
  | [], [], n, σ, μ, ω, _, hs, _, _, _ => ⟨μ, ω, Grew.refl _ _, trivial, hs⟩
  | s :: l, v :: vs, n, σ, μ, ω, hD, hs, hm, hk, hf => by
    rw [List.all_cons, Bool.and_eq_true] at hk
    obtain ⟨μ1, ω1, h1, h2, h3⟩ := GS.come (n := n) hD hX hs hm.1 hk.1 (fun k hk1 hk2 => hf k hk1 (by simp [gcntL]; omega))
    obtain ⟨μ2, ω2, k1, k2, k3⟩ := gcomeL hX l (fun id v hd hv => (h1 id v (hD id v hd hv)).1) h3 hm.2 hk.2 (freeD.adds (c := s.cnt) (by simpa [gcntL] using hf) (GS.ros_lt s n))
    exact ⟨μ2, ω2, h1.trans k1, ⟨SV.con_mono k1.le h2, k2⟩, by rw [grosL, St.adds_app]; exact k3⟩
  | [], _ :: _, _, _, _, _, _, _, hm, _, _ => hm.elim
  | _ :: _, [], _, _, _, _, _, _, hm, _, _ => hm.elim
theorem GA.come {s : GA} {v : Value} {n : Nat} (hD : ∀ id v, D id = true → μ0 id = some v → μ id = some v) (hX : X.w0 = w) (hs : Sat X σ μ ω a w) (hm : s.ok w X.S μ0 v) (hk : s.okN D = true) (hf : freeD σ n s.cnt) : ∃ μ1 ω1, Grew μ μ1 ω ω1 ∧ (s.av n).con μ1 v ∧ Sat X (σ.adds (s.ros n)) μ1 ω1 a w := by
  cases s with
  | o s => exact GS.come hD hX hs hm hk hf
  | a l =>
    obtain ⟨vs, rfl, hm⟩ := hm
    obtain ⟨μ1, ω1, h1, h2, h3⟩ := gcomeL hX l hD hs hm hk hf
    exact ⟨μ1, ω1, h1, ⟨vs, rfl, h2⟩, h3⟩
theorem gcomeA (hX : X.w0 = w) : ∀ (l : List GA) {vs : List Value} {i n : Nat} {σ : St} {μ : Mu} {ω : Om}, (∀ id v, D id = true → μ0 id = some v → μ id = some v) → Sat X σ μ ω a w → gokA w X.S μ0 l vs → l.all (GA.okN D) = true → freeD σ n (gcntA l) → ∃ μ1 ω1, Grew μ μ1 ω ω1 ∧ conS μ1 i (gavA i n l) vs ∧ Sat X (σ.adds (grosA n l)) μ1 ω1 a w
  | [], [], i, n, σ, μ, ω, _, hs, _, _, _ => ⟨μ, ω, Grew.refl _ _, trivial, hs⟩
  | s :: l, v :: vs, i, n, σ, μ, ω, hD, hs, hm, hk, hf => by
    rw [List.all_cons, Bool.and_eq_true] at hk
    obtain ⟨μ1, ω1, h1, h2, h3⟩ := GA.come (n := n) hD hX hs hm.1 hk.1 (fun k hk1 hk2 => hf k hk1 (by simp [gcntA]; omega))
    obtain ⟨μ2, ω2, k1, k2, k3⟩ := gcomeA hX l (i := i + 1) (fun id v hd hv => (h1 id v (hD id v hd hv)).1) h3 hm.2 hk.2 (freeD.adds (c := s.cnt) (by simpa [gcntA] using hf) (GA.ros_lt s n))
    exact ⟨μ2, ω2, h1.trans k1, ⟨rfl, AV.con_mono k1.le h2, k2⟩, by rw [grosA, St.adds_app]; exact k3⟩
  | [], _ :: _, _, _, _, _, _, _, _, hm, _, _ => hm.elim
  | _ :: _, [], _, _, _, _, _, _, _, hm, _, _ => hm.elim

theorem gokA_len {S : Nat → Prop} : ∀ {l : List GA} {vs : List Value}, gokA w S μ l vs → vs.length = l.length
  | [], [], _ => rfl
  | _ :: _, _ :: _, h => by simp [gokA_len h.2]
  | [], _ :: _, h => h.elim
  | _ :: _, [], h => h.elim
/-- The state at the start. -/
def St.enterS (n : Nat) (args : List GA) (H0 : List (Nat × AObj)) : St := { F := assoc (gavA 0 1000 args), H := updL (assoc H0) (someL (grosA 1000 args)), D := updL (memB (keys H0)) (trueL (grosA 1000 args)), n := n }
def keptL (H0 H1 : List (Nat × AObj)) : List Nat := (keys H0).filter (keptB H0 H1)
def enterB (args : List GA) (H0 : List (Nat × AObj)) : Bool := (rngL 1000 (gcntA args)).all (fun k => !memB (keys H0) k) && H0.all (fun q => q.2.ok (memB (keys H0))) && args.all (GA.okN (memB (keys H0)))
def ancS0 (μ : Mu) (ω : Om) (l : List Nat) : List (Nat × Value × (Nat → Prop)) := l.map fun id => (id, (μ id).getD undef, ω id)
theorem assoc_keys {α : Type _} : ∀ {l : List (Nat × α)} {id : Nat}, memB (keys l) id = true → ∃ o, assoc l id = some o
  | (k, v) :: l, id, h => by
    unfold assoc
    rcases hb : Nat.beq id k with _ | _
    · simp only [keys, memB, hb, Bool.false_or] at h
      exact assoc_keys h
    · exact ⟨v, rfl⟩
  | [], id, h => by cases h
theorem enterS_sat {args : List GA} {vs : List Value} {H0 H1 : List (Nat × AObj)} {n m : Nat} (hn : args.length + m = n) (hB : enterB args H0 = true) (hm : Mem ⟨w, S0 ω H0, []⟩ (assoc H0) μ ω w) (h : gokA w (S0 ω H0) μ args vs) :
    ∃ μ1 ω1, Sat ⟨w, S0 ω H0, ancS0 μ ω (keptL H0 H1)⟩ (St.enterS n args H0) μ1 ω1 { tmps := vs.toArray ++ Array.replicate m undef, defers := [] } w := by
  simp only [enterB, Bool.and_eq_true, List.all_eq_true] at hB
  obtain ⟨⟨hB1, hB2⟩, hB3⟩ := hB
  have hres : ∀ id v, memB (keys H0) id = true → μ id = some v → (fun id => if memB (keys H0) id = true then μ id else none) id = some v := fun id v hd hv => by simp only [hd, if_true]; exact hv
  have h0 : Sat ⟨w, S0 ω H0, []⟩ { F := fun _ => none, H := assoc H0, D := memB (keys H0), n := n } (fun id => if memB (keys H0) id = true then μ id else none) ω { tmps := vs.toArray ++ Array.replicate m undef, defers := [] } w :=
    { kept := Kp.refl _ _, size := by simp [gokA_len h, hn], defers := rfl, slot := fun _ _ h => (by cases h), made := fun id hid => by simp only at hid; simp [hid], obj := fun id o ho => by
        obtain ⟨v, hv, hh⟩ := hm.obj id o ho
        have hd := memB_iff.2 (keys_mem (assoc_mem ho))
        exact ⟨v, hres id v hd hv, AObj.holds_on hres (hB2 _ (assoc_mem ho)) hh⟩, own := hm.own, sep := hm.sep, anc := fun _ h => (by cases h) }
  obtain ⟨μ1, ω1, hg, hc, hs⟩ := gcomeA (n := 1000) (i := 0) (μ0 := μ) (D := memB (keys H0)) rfl args hres h0 h (List.all_eq_true.2 hB3) (fun k h1 h2 => by have := hB1 k (rngL_mem h1 h2); simpa using this)
  refine ⟨μ1, ω1, hs.kept, hs.size, hs.defers, fun t av ht => ?_, hs.made, fun id o ho => ?_, hs.own, hs.sep, fun q hq => ?_⟩
  · obtain ⟨v, _, hv, hcv⟩ := conS_get hc (assoc_mem ht)
    have hlt : t < vs.length := (List.getElem?_eq_some_iff.1 (by simpa using hv)).1
    exact ⟨v, by rw [Array.getElem?_append_left (by simpa using hlt)]; simpa using hv, hcv⟩
  · obtain ⟨v, hv, hh⟩ := hs.obj id o ho
    exact ⟨v, hv, AObj.holds_cx (fun _ h => h) hh⟩
  · obtain ⟨id, hid, rfl⟩ := List.mem_map.1 hq
    have hk := memB_iff.2 (List.mem_filter.1 hid).1
    obtain ⟨o, ho⟩ := assoc_keys hk
    obtain ⟨v, hv, _⟩ := hm.obj id o ho
    have := hg id v (hres id v hk hv)
    exact ⟨by simp [hv, this.1], this.2⟩
/-! ### leaving -/
def roL : List (Nat × AObj) → List (Nat × AObj)
  | [] => []
  | (k, o) :: l => bif isRo o then (k, o) :: roL l else roL l
def ItemsR (P : Program) (σ : St) (fn : Func) (av : AV) : Prop := ∀ X μ ω a w, Sat X σ μ ω a w → ∃ v, (results fn a.tmps).run P w = .ok v w ∧ av.con μ v
def AV.tv : AV → TV
  | .o s => .o s
  | .a l => .a l
  | _ => .o (.c undef)
def AV.plain : AV → Bool
  | .o _ => true
  | .a _ => true
  | _ => false
theorem AV.con_tv {av : AV} {v : Value} (h : av.con μ v) (hp : av.plain = true) : av.tv.con μ v := by cases av <;> first | exact h | cases hp
theorem items0 {fn : Func} (hr : fn.results = #[]) : ItemsR P σ fn (.t []) := fun X μ ω a w hs => ⟨.tuple #[], by simp [results_eq, hr], [], rfl, trivial⟩
theorem items1 {fn : Func} {r : ResultVar} {av : AV} (hr : fn.results = #[r]) (hi : Item P σ r av) : ItemsR P σ fn av := fun X μ ω a w hs => by
  obtain ⟨v, hv, hc⟩ := hi X μ ω a w hs
  exact ⟨v, by simp [results_eq, hr, Array.mapM_eq_mapM_toList, hv], hc⟩
theorem items2 {fn : Func} {r1 r2 : ResultVar} {av1 av2 : AV} (hr : fn.results = #[r1, r2]) (hi1 : Item P σ r1 av1) (hi2 : Item P σ r2 av2) (hp : (av1.plain && av2.plain) = true) : ItemsR P σ fn (.t [av1.tv, av2.tv]) := fun X μ ω a w hs => by
  obtain ⟨v1, hv1, hc1⟩ := hi1 X μ ω a w hs
  obtain ⟨v2, hv2, hc2⟩ := hi2 X μ ω a w hs
  simp only [Bool.and_eq_true] at hp
  exact ⟨.tuple #[v1, v2], by simp [results_eq, hr, Array.mapM_eq_mapM_toList, hv1, hv2], [v1, v2], rfl, AV.con_tv hc1 hp.1, AV.con_tv hc2 hp.2, trivial⟩
theorem items3 {fn : Func} {r1 r2 r3 : ResultVar} {av1 av2 av3 : AV} (hr : fn.results = #[r1, r2, r3]) (hi1 : Item P σ r1 av1) (hi2 : Item P σ r2 av2) (hi3 : Item P σ r3 av3) (hp : (av1.plain && av2.plain && av3.plain) = true) : ItemsR P σ fn (.t [av1.tv, av2.tv, av3.tv]) := fun X μ ω a w hs => by
  obtain ⟨v1, hv1, hc1⟩ := hi1 X μ ω a w hs
  obtain ⟨v2, hv2, hc2⟩ := hi2 X μ ω a w hs
  obtain ⟨v3, hv3, hc3⟩ := hi3 X μ ω a w hs
  simp only [Bool.and_eq_true] at hp
  exact ⟨.tuple #[v1, v2, v3], by simp [results_eq, hr, Array.mapM_eq_mapM_toList, hv1, hv2, hv3], [v1, v2, v3], rfl, AV.con_tv hc1 hp.1.1, AV.con_tv hc2 hp.1.2, AV.con_tv hc3 hp.2, trivial⟩
def EndS (P : Program) (X : Cx) (fn : Func) (H0 : List (Nat × AObj)) (r : AV) (H1 : List (Nat × AObj)) : Post
  | .normal, σ | .ret, σ => ∃ ρ, ancB X (memB (keys (H1 ++ roL H0))) ρ = true ∧ Sub σ (St.of σ.n [] (H1 ++ roL H0)) ρ ∧ ItemsR P σ fn (r.ren ρ) ∧ r.ok (memB (keys (H1 ++ roL H0))) = true
  | _, _ => False
theorem assoc_app {α : Type _} : ∀ {l m : List (Nat × α)} {id : Nat} {o : α}, assoc l id = some o → assoc (l ++ m) id = some o
  | (k, v) :: l, m, id, o, h => by
    rw [List.cons_append]
    unfold assoc at h ⊢
    rcases hb : Nat.beq id k with _ | _
    · rw [hb] at h; exact assoc_app h
    · rw [hb] at h; exact h
  | [], _, _, _, h => by cases h
theorem fnS_of_ax {f : FuncId} {fn : Func} {c : Code} {args : List GA} {H0 H1 : List (Nat × AObj)} {r : AV} {n : Nat} (hf : P.funcs[f]? = some fn) (hb : fn.body = some c) (hnt : fn.ntmps = n) (hle : Nat.ble args.length n = true) (hB : enterB args H0 = true)
    (h : ∀ X : Cx, (∀ D ρ, ((keptL H0 H1).all fun id => D id && Nat.beq (ρ id) id) = true → ancB X D ρ = true) → AX P X c (St.enterS n args H0) (EndS P X fn H0 r H1)) : FnS P f args H0 r H1 := fun w vs μ ω hm hok => by
  have hlen := gokA_len hok
  have hn : args.length + (fn.ntmps - args.length) = n := by rw [hnt]; have := Nat.le_of_ble_eq_true hle; omega
  obtain ⟨μ1, ω1, hs⟩ := enterS_sat (H1 := H1) hn hB hm hok
  have hX : ∀ D ρ, ((keptL H0 H1).all fun id => D id && Nat.beq (ρ id) id) = true → ancB ⟨w, S0 ω H0, ancS0 μ ω (keptL H0 H1)⟩ D ρ = true := fun D ρ hh => by
    rw [ancB, List.all_eq_true]
    intro q hq
    obtain ⟨id, hid, rfl⟩ := List.mem_map.1 hq
    exact List.all_eq_true.1 hh id hid
  refine calls_of_ax (S := S0 ω H0) (A := ancS0 μ ω (keptL H0 H1)) (σ := St.enterS n args H0) (μ := μ1) (ω := ω1) hf hb (by rw [← hlen] at hs; simpa using hs) (ax_mono (h _ hX) ?_)
  intro e σ1 hE
  have main : (∃ ρ, ancB ⟨w, S0 ω H0, ancS0 μ ω (keptL H0 H1)⟩ (memB (keys (H1 ++ roL H0))) ρ = true ∧ Sub σ1 (St.of σ1.n [] (H1 ++ roL H0)) ρ ∧ ItemsR P σ1 fn (r.ren ρ) ∧ r.ok (memB (keys (H1 ++ roL H0))) = true) → ∀ μ2 ω2 a w1, Sat ⟨w, S0 ω H0, ancS0 μ ω (keptL H0 H1)⟩ σ1 μ2 ω2 a w1 → ∃ v, (results fn a.tmps).run P w1 = .ok v w1 ∧ ∃ v' μ' ω', Ending.returned v = .returned v' ∧ r.con μ' v' ∧ Mem ⟨w, S0 ω H0, []⟩ (assoc H1) μ' ω' w1 ∧ ∀ id, keptB H0 H1 id = true → μ' id = μ id ∧ ω' id = ω id := by
    rintro ⟨ρ, hA, hsub, hit, hro⟩ μ2 ω2 a w1 hs1
    obtain ⟨v, hv, hc⟩ := hit _ μ2 ω2 a w1 hs1
    have hs2 := hs1.sub hsub hA
    refine ⟨v, hv, v, _, _, rfl, AV.con_ren (D := memB (keys (H1 ++ roL H0))) hc hro, ⟨hs2.kept, fun id o ho => ?_, fun id o ho => hs2.own id o (assoc_app ho), fun i j oi oj hi hj => hs2.sep i j oi oj (assoc_app hi) (assoc_app hj)⟩, fun id hid => ?_⟩
    · obtain ⟨u, hu, hh⟩ := hs2.obj id o (assoc_app ho)
      exact ⟨u, hu, AObj.holds_cx (fun _ h => h) hh⟩
    · have hk : memB (keys H0) id = true := by
        unfold keptB at hid
        cases e : assoc H0 id with
        | none => rw [e] at hid; cases hid
        | some o => exact memB_iff.2 (keys_mem (assoc_mem e))
      have hmem : id ∈ keptL H0 H1 := List.mem_filter.2 ⟨memB_iff.1 hk, hid⟩
      have := hs2.anc _ (List.mem_map.2 ⟨id, hmem, rfl⟩)
      obtain ⟨o, ho⟩ := assoc_keys hk
      obtain ⟨u, hu, _⟩ := hm.obj id o ho
      simp only [hu, Option.getD_some] at this
      exact ⟨by rw [hu]; exact this.1, this.2⟩
  cases e with
  | normal => exact main hE
  | ret => exact main hE
  | exit id => exact hE.elim
  | goto l => exact hE.elim
  | panic ch => exact hE.elim
  | outgrown => exact hE.elim
end
/-! ### a call -/
inductive GSM (H : Hp) : SV → GS → List (Nat × AObj) → Prop
  | vl (s : SV) : GSM H s (.vl s) []
  | r {α : Type} {d : Kd α} {xs : List α} {t : Nat} {s : SV} {p : List (Nat × AObj)} (h : SMatch H s (.r d t xs) p) : GSM H s (.r d xs) p
inductive GLM (H : Hp) : List SV → List GS → List (Nat × AObj) → Prop
  | nil : GLM H [] [] []
  | cons {s : SV} {x : GS} {l : List SV} {m : List GS} {p q : List (Nat × AObj)} (h : GSM H s x p) (k : GLM H l m q) : GLM H (s :: l) (x :: m) (p ++ q)
inductive GAM (H : Hp) : AV → GA → List (Nat × AObj) → Prop
  | o {s : SV} {x : GS} {p : List (Nat × AObj)} (h : GSM H s x p) : GAM H (.o s) (.o x) p
  | a {l : List SV} {m : List GS} {p : List (Nat × AObj)} (h : GLM H l m p) : GAM H (.a l) (.a m) p
inductive GTM (H : Hp) : List AV → List GA → List (Nat × AObj) → Prop
  | nil : GTM H [] [] []
  | cons {s : AV} {x : GA} {l : List AV} {m : List GA} {p q : List (Nat × AObj)} (h : GAM H s x p) (k : GTM H l m q) : GTM H (s :: l) (x :: m) (p ++ q)
def gphS (H : Hp) : SV → GS → List (Nat × AObj)
  | .i id, .r _ _ => match H id with
    | some b => [(id, b)]
    | none => []
  | .s id _ _ _, .r _ _ => match H id with
    | some b => [(id, b)]
    | none => []
  | _, _ => []
def gphL (H : Hp) : List SV → List GS → List (Nat × AObj)
  | s :: l, x :: m => gphS H s x ++ gphL H l m
  | _, _ => []
def gphA (H : Hp) : AV → GA → List (Nat × AObj)
  | .o s, .o x => gphS H s x
  | .a l, .a m => gphL H l m
  | _, _ => []
def gphT (H : Hp) : List AV → List GA → List (Nat × AObj)
  | s :: l, x :: m => gphA H s x ++ gphT H l m
  | _, _ => []
section
variable {P : Program} {X : Cx} {ops : Array Oper} {o : Oper} {l : List Oper} {σ : St} {K : List (Pre × Eff) → St → Prop} {lg : List (Nat × AV)} {μ : Mu} {ω : Om} {a : Act} {w : World} {H H1 : Hp}
theorem GSM.of {s : SV} {x : GS} {p : List (Nat × AObj)} (h : GSM H s x p) (hp : ∀ q ∈ p, H1 q.1 = some q.2) : GSM H1 s x p := by
  cases h with
  | vl s => exact .vl s
  | r h => exact .r (h.of hp)
theorem GSM.fits {s : SV} {x : GS} {p : List (Nat × AObj)} (h : GSM H s x p) : ∀ q ∈ p, H q.1 = some q.2 := by
  cases h with
  | vl s => exact no_mem
  | r h => exact h.fits
theorem GLM.of {s : List SV} {x : List GS} {p : List (Nat × AObj)} (h : GLM H s x p) : (∀ q ∈ p, H1 q.1 = some q.2) → GLM H1 s x p := by
  induction h with
  | nil => exact fun _ => .nil
  | cons h _ ih => exact fun hp => .cons (h.of (app_l hp)) (ih (app_r hp))
theorem GLM.fits {s : List SV} {x : List GS} {p : List (Nat × AObj)} (h : GLM H s x p) : ∀ q ∈ p, H q.1 = some q.2 := by
  induction h with
  | nil => exact no_mem
  | cons h _ ih => exact mem_app h.fits ih
theorem GAM.of {s : AV} {x : GA} {p : List (Nat × AObj)} (h : GAM H s x p) (hp : ∀ q ∈ p, H1 q.1 = some q.2) : GAM H1 s x p := by
  cases h with
  | o h => exact .o (h.of hp)
  | a h => exact .a (h.of hp)
theorem GAM.fits {s : AV} {x : GA} {p : List (Nat × AObj)} (h : GAM H s x p) : ∀ q ∈ p, H q.1 = some q.2 := by
  cases h with
  | o h => exact h.fits
  | a h => exact h.fits
theorem GTM.of {s : List AV} {x : List GA} {p : List (Nat × AObj)} (h : GTM H s x p) : (∀ q ∈ p, H1 q.1 = some q.2) → GTM H1 s x p := by
  induction h with
  | nil => exact fun _ => .nil
  | cons h _ ih => exact fun hp => .cons (h.of (app_l hp)) (ih (app_r hp))
theorem GTM.fits {s : List AV} {x : List GA} {p : List (Nat × AObj)} (h : GTM H s x p) : ∀ q ∈ p, H q.1 = some q.2 := by
  induction h with
  | nil => exact no_mem
  | cons h _ ih => exact mem_app h.fits ih
theorem Rdb.getW {α : Type} {d : Kd α} {xs : List α} {id : Nat} {b : AObj} {T : Nat → Prop} (hr : Rdb d xs b) (h : Sat X σ μ ω a w) (hH : σ.H id = some b) (hT : ∀ k, ω id k → ¬ T k) (hk : ∀ k, T k → X.S k ∨ X.w0.heap.size ≤ k) : ∃ A c, μ id = some (.slice A xs.length c) ∧ xs.length ≤ c ∧ ∀ W, Kp w W T → d.C W A xs.length xs := by
  obtain ⟨v, hv, hh⟩ := h.obj id b hH
  cases hr with
  | row t =>
    obtain ⟨B, hR⟩ := hh
    replace hR := Kd.S_R hR
    obtain ⟨A, c, rfl, hl, hC⟩ := Kd.R_reads hR
    refine ⟨A, c, hv, hl, fun W hW => ?_⟩
    have hR2 := Kd.R_step hR (fun k ho hlt => hW.kept.2 k hlt (hT k ho))
    obtain ⟨A', c', e, _, hC'⟩ := Kd.R_reads hR2
    cases e
    exact hC'
  | ro =>
    obtain ⟨_, A, c, rfl, hl, hC⟩ := hh
    exact ⟨A, c, hv, hl, fun W hW => hC W (h.kept.then_ hW hk)⟩
theorem SMatch.okW {α : Type} {d : Kd α} {xs : List α} {t : Nat} {s : SV} {p : List (Nat × AObj)} {v : Value} {T : Nat → Prop} (hs : Sat X σ μ ω a w) (h : SMatch σ.H s (.r d t xs) p) (hT : ∀ q ∈ p, ∀ k, ω q.1 k → ¬ T k) (hk : ∀ k, T k → X.S k ∨ X.w0.heap.size ≤ k) (hc : s.con μ v) : ∃ A c, v = .slice A xs.length c ∧ xs.length ≤ c ∧ ∀ W, Kp w W T → d.C W A xs.length xs := by
  cases h with
  | nil d t => rw [show v = _ from hc]; exact ⟨none, 0, rfl, Nat.le_refl _, fun W _ => Kd.C_nil d W⟩
  | r hH h =>
    obtain ⟨A, c, hm, hl, hC⟩ := h.getW hs hH (hT _ List.mem_cons_self) hk
    have := hc.1
    rw [hm] at this
    injection this with this
    exact ⟨A, c, this.symm, hl, hC⟩
  | s hH h hsz hl e =>
    subst hsz
    subst e
    obtain ⟨A, c, hm, hlc, hC⟩ := h.getW hs hH (hT _ List.mem_cons_self) hk
    obtain ⟨A0, N, c0, hm0, hle, A', rfl, hA⟩ := hc
    rw [hm] at hm0
    cases hm0
    have hC2 := fun W hW => C_sub (hC W hW) hl hle hA
    have e2 := (hC2 w (Kp.refl _ _)).1
    exact ⟨A', _, by rw [e2], by rw [e2]; omega, fun W hW => by rw [e2]; exact hC2 W hW⟩
theorem GSM.ok {T : Nat → Prop} {s : SV} {x : GS} {p : List (Nat × AObj)} {v : Value} (hs : Sat X σ μ ω a w) (h : GSM σ.H s x p) (hT : ∀ q ∈ p, ∀ k, ω q.1 k → ¬ T k) (hk : ∀ k, T k → X.S k ∨ X.w0.heap.size ≤ k) (hc : s.con μ v) : x.ok w T μ v := by
  cases h with
  | vl s => exact hc
  | r h => exact h.okW hs hT hk hc
theorem GLM.ok {T : Nat → Prop} {s : List SV} {x : List GS} {p : List (Nat × AObj)} (hs : Sat X σ μ ω a w) (h : GLM σ.H s x p) (hk : ∀ k, T k → X.S k ∨ X.w0.heap.size ≤ k) : (∀ q ∈ p, ∀ k, ω q.1 k → ¬ T k) → ∀ {vs : List Value}, conL μ s vs → gokL w T μ x vs := by
  induction h with
  | nil => intro _ vs hc; cases vs with
    | nil => trivial
    | cons => exact hc.elim
  | cons h _ ih => intro hT vs hc; cases vs with
    | nil => exact hc.elim
    | cons => exact ⟨h.ok hs (app_l hT) hk hc.1, ih (app_r hT) hc.2⟩
theorem GAM.ok {T : Nat → Prop} {s : AV} {x : GA} {p : List (Nat × AObj)} {v : Value} (hs : Sat X σ μ ω a w) (h : GAM σ.H s x p) (hT : ∀ q ∈ p, ∀ k, ω q.1 k → ¬ T k) (hk : ∀ k, T k → X.S k ∨ X.w0.heap.size ≤ k) (hc : s.con μ v) : x.ok w T μ v := by
  cases h with
  | o h => exact h.ok hs hT hk hc
  | a h => obtain ⟨vs, e, hc⟩ := hc; exact ⟨vs, e, h.ok hs hk hT hc⟩
theorem GTM.ok {T : Nat → Prop} {s : List AV} {x : List GA} {p : List (Nat × AObj)} (hs : Sat X σ μ ω a w) (h : GTM σ.H s x p) (hk : ∀ k, T k → X.S k ∨ X.w0.heap.size ≤ k) : (∀ q ∈ p, ∀ k, ω q.1 k → ¬ T k) → ∀ {vs : List Value}, conV μ s vs → gokA w T μ x vs := by
  induction h with
  | nil => intro _ vs hc; cases vs with
    | nil => trivial
    | cons => exact hc.elim
  | cons h _ ih => intro hT vs hc; cases vs with
    | nil => exact hc.elim
    | cons => exact ⟨h.ok hs (app_l hT) hk hc.1, ih (app_r hT) hc.2⟩
def HasL (H : Hp) : List (Nat × AObj) → Prop
  | [] => True
  | (k, o) :: l => H k = some o ∧ HasL H l
theorem HasL.fits {H : Hp} : ∀ {l : List (Nat × AObj)}, HasL H l → ∀ q ∈ l, H q.1 = some q.2
  | [], _, _, hq => by cases hq
  | (k, o) :: l, h, q, hq => by
    rcases List.mem_cons.1 hq with e | hq
    · subst e; exact h.1
    · exact HasL.fits h.2 q hq
/-- The objects that are used up. -/
def goneL (H1 : List (Nat × AObj)) : List (Nat × AObj) → List (Nat × Option AObj)
  | [] => []
  | (k, o) :: l => bif isRo o || memB (keys H1) k then goneL H1 l else (k, none) :: goneL H1 l
def huH (H0 H1 : List (Nat × AObj)) : List (Nat × Option AObj) := goneL H1 H0 ++ someL H1
def nwH (H0 : List (Nat × AObj)) : List (Nat × AObj) → List (Nat × Bool)
  | [] => []
  | (k, o) :: l => bif memB (keys H0) k then nwH H0 l else (k, true) :: nwH H0 l
def nodupB : List Nat → Bool
  | [] => true
  | k :: l => !memB l k && nodupB l
def callB (D : Nat → Bool) (H0 : List (Nat × AObj)) (r : AV) (H1 : List (Nat × AObj)) (ph : List (Nat × AObj)) : Bool :=
  (keys H1).all (fun k => memB (keys H0) k || !D k) && nodupB (keys H1) && (r.ok (memB (keys (H1 ++ roL H0))) && H1.all (fun q => q.2.ok (memB (keys (H1 ++ roL H0))))) && ph.all (fun q => isRo q.2 || !memB (keys H0) q.1) && H1.all (fun q => !isRo q.2) && nodupB (keys H0)
theorem nwH_mem {H0 : List (Nat × AObj)} : ∀ {l : List (Nat × AObj)} {q : Nat × Bool}, q ∈ nwH H0 l → q.2 = true ∧ memB (keys H0) q.1 = false ∧ q.1 ∈ keys l
  | (k, o) :: l, q, h => by
    unfold nwH at h
    cases hb : memB (keys H0) k with
    | true => rw [hb] at h; have := nwH_mem (l := l) h; exact ⟨this.1, this.2.1, List.mem_cons_of_mem _ this.2.2⟩
    | false =>
      rw [hb] at h
      rcases List.mem_cons.1 h with e | h
      · subst e; exact ⟨rfl, hb, List.mem_cons_self⟩
      · have := nwH_mem (l := l) h; exact ⟨this.1, this.2.1, List.mem_cons_of_mem _ this.2.2⟩
  | [], _, h => by cases h
theorem nwH_of {H0 : List (Nat × AObj)} : ∀ {l : List (Nat × AObj)} {k : Nat}, k ∈ keys l → memB (keys H0) k = false → k ∈ (nwH H0 l).map (·.1)
  | (j, o) :: l, k, h, hb => by
    unfold nwH
    rcases List.mem_cons.1 h with e | h
    · subst e; rw [hb]; exact List.mem_cons_self
    · cases hj : memB (keys H0) j with
      | true => exact nwH_of h hb
      | false => exact List.mem_cons_of_mem _ (nwH_of h hb)
  | [], _, h, _ => by cases h
theorem goneL_mem {H1 : List (Nat × AObj)} : ∀ {l : List (Nat × AObj)} {q : Nat × Option AObj}, q ∈ goneL H1 l → q.2 = none ∧ memB (keys H1) q.1 = false
  | (k, o) :: l, q, h => by
    unfold goneL at h
    cases hb : (isRo o || memB (keys H1) k) with
    | true => rw [hb] at h; exact goneL_mem (l := l) h
    | false =>
      rw [hb] at h
      rcases List.mem_cons.1 h with e | h
      · subst e; rw [Bool.or_eq_false_iff] at hb; exact ⟨rfl, hb.2⟩
      · exact goneL_mem (l := l) h
  | [], _, h => by cases h
theorem goneL_of {H1 : List (Nat × AObj)} : ∀ {l : List (Nat × AObj)} {k : Nat} {o : AObj}, (k, o) ∈ l → isRo o = false → memB (keys H1) k = false → k ∈ (goneL H1 l).map (·.1)
  | (j, o') :: l, k, o, h, h1, h2 => by
    unfold goneL
    rcases List.mem_cons.1 h with e | h
    · cases e; rw [h1, h2]; exact List.mem_cons_self
    · cases hb : (isRo o' || memB (keys H1) j) with
      | true => exact goneL_of h h1 h2
      | false => exact List.mem_cons_of_mem _ (goneL_of h h1 h2)
  | [], _, _, h, _, _ => by cases h
theorem someL_mem : ∀ {l : List (Nat × AObj)} {k : Nat} {o : Option AObj}, (k, o) ∈ someL l → ∃ o', o = some o' ∧ (k, o') ∈ l
  | (j, o1) :: l, k, o, h => by
    rcases List.mem_cons.1 h with e | h
    · cases e; exact ⟨o1, rfl, List.mem_cons_self⟩
    · obtain ⟨o', h1, h2⟩ := someL_mem (l := l) h; exact ⟨o', h1, List.mem_cons_of_mem _ h2⟩
  | [], _, _, h => by cases h
theorem someL_keys : ∀ {l : List (Nat × AObj)}, (someL l).map (·.1) = keys l
  | [] => rfl
  | (k, o) :: l => by simp [someL, keys, someL_keys (l := l)]
theorem assoc_of_mem {α : Type _} : ∀ {l : List (Nat × α)} {k : Nat} {o : α}, nodupB (keys l) = true → (k, o) ∈ l → assoc l k = some o
  | (j, o') :: l, k, o, hn, h => by
    simp only [keys, nodupB, Bool.and_eq_true, Bool.not_eq_true'] at hn
    unfold assoc
    rcases List.mem_cons.1 h with e | h'
    · cases e; simp
    · have hne : Nat.beq k j = false := by
        rw [← Bool.not_eq_true, Nat.beq_eq]
        intro e
        subst e
        have := memB_iff.2 (keys_mem h')
        rw [hn.1] at this
        cases this
      rw [hne]
      exact assoc_of_mem hn.2 h'
  | [], _, _, _, h => by cases h
theorem roL_mem : ∀ {l : List (Nat × AObj)} {k : Nat}, k ∈ keys (roL l) → ∃ o, (k, o) ∈ l ∧ isRo o = true
  | (j, o) :: l, k, h => by
    unfold roL at h
    cases hb : isRo o with
    | true =>
      rw [hb] at h
      rcases List.mem_cons.1 h with e | h
      · subst e; exact ⟨o, List.mem_cons_self, hb⟩
      · obtain ⟨o', h1, h2⟩ := roL_mem (l := l) h; exact ⟨o', List.mem_cons_of_mem _ h1, h2⟩
    | false => rw [hb] at h; obtain ⟨o', h1, h2⟩ := roL_mem (l := l) h; exact ⟨o', List.mem_cons_of_mem _ h1, h2⟩
  | [], _, h => by cases h
theorem keys_app {α : Type _} : ∀ (l m : List (Nat × α)), keys (l ++ m) = keys l ++ keys m
  | [], _ => rfl
  | (k, v) :: l, m => by simp [keys, keys_app l m]
/-- What a call leaves. -/
theorem Sat.called {H0 H1 ph : List (Nat × AObj)} {r : AV} {v : Value} {μ' : Mu} {ω' : Om} {w' : World} (hs : Sat X σ μ ω a w) (hH : ∀ q ∈ H0, σ.H q.1 = some q.2) (hB : callB σ.D H0 r H1 ph = true) (hm : Mem ⟨w, S0 ω H0, []⟩ (assoc H1) μ' ω' w') (hr : r.con μ' v) (hkp : ∀ id, keptB H0 H1 id = true → μ' id = μ id ∧ ω' id = ω id) :
    ∃ μ2 ω2, r.con μ2 v ∧ Sat X { σ with H := updL σ.H (huH H0 H1), D := updL σ.D (nwH H0 H1) } μ2 ω2 a w' := by
  simp only [callB, Bool.and_eq_true] at hB
  obtain ⟨⟨⟨⟨⟨hb1, hb2⟩, hb3, hb4⟩, _⟩, hb5⟩, hb6⟩ := hB
  have hkey : ∀ k, k ∈ keys H1 → memB (keys H0) k = true ∨ σ.D k = false := fun k hk => by
    have := List.all_eq_true.1 hb1 k hk
    rw [Bool.or_eq_true] at this
    exact this.imp id (fun h => by simpa using h)
  have hin : ∀ k, memB (keys H0) k = true → ∃ o, assoc H0 k = some o ∧ σ.H k = some o := fun k hk => by
    obtain ⟨o, ho⟩ := assoc_keys hk
    exact ⟨o, ho, hH _ (assoc_mem ho)⟩
  have hkept : ∀ k, k ∈ keys H1 → memB (keys H0) k = true → keptB H0 H1 k = true := fun k h1 h0 => by
    obtain ⟨o, ho, _⟩ := hin k h0
    unfold keptB
    rw [ho]
    simp [memB_iff.2 h1]
  have hobj : ∀ k o, (k, o) ∈ H1 → assoc H1 k = some o := fun k o h => assoc_of_mem hb2 h
  have key : ∀ id o, updL σ.H (huH H0 H1) id = some o → (id ∈ keys H1 ∧ assoc H1 id = some o) ∨ (id ∉ keys H1 ∧ σ.H id = some o ∧ ∀ o', (id, o') ∈ H0 → isRo o' = true) := fun id o ho => by
    by_cases hk : id ∈ (huH H0 H1).map (·.1)
    · have hmem := updL_mem (huH H0 H1) σ.H id hk
      rw [ho] at hmem
      rcases List.mem_append.1 hmem with h1 | h1
      · have := (goneL_mem h1).1; cases this
      · obtain ⟨o', h2, h3⟩ := someL_mem h1
        cases h2
        exact .inl ⟨keys_mem h3, hobj _ _ h3⟩
    · rw [updL_ne _ _ hk] at ho
      rw [huH, List.map_append, List.mem_append, not_or, someL_keys] at hk
      refine .inr ⟨hk.2, ho, fun o' ho' => ?_⟩
      cases hro : isRo o' with
      | true => rfl
      | false => exact absurd (goneL_of ho' hro (by rw [← Bool.not_eq_true, memB_iff]; exact hk.2)) hk.1
  have hmu0 : ∀ k, k ∈ keys H1 → ∀ u, μ k = some u → μ' k = some u := fun k hk u hu => by
    rcases hkey k hk with h0 | h0
    · rw [(hkp k (hkept k hk h0)).1]; exact hu
    · rw [hs.made k h0] at hu; cases hu
  let μ2 : Mu := fun id => if memB (keys H1) id = true then μ' id else μ id
  let ω2 : Om := fun id => if memB (keys H1) id = true then ω' id else ω id
  have e1 : ∀ id, id ∈ keys H1 → μ2 id = μ' id ∧ ω2 id = ω' id := fun id h => by simp [μ2, ω2, memB_iff.2 h]
  have e2 : ∀ id, id ∉ keys H1 → μ2 id = μ id ∧ ω2 id = ω id := fun id h => by
    have : memB (keys H1) id = false := by rw [← Bool.not_eq_true, memB_iff]; exact h
    simp [μ2, ω2, this]
  have hle : Le μ μ2 := fun id u hu => by
    by_cases h : id ∈ keys H1
    · rw [(e1 id h).1]; exact hmu0 id h u hu
    · rw [(e2 id h).1]; exact hu
  have hon : ∀ id u, memB (keys (H1 ++ roL H0)) id = true → μ' id = some u → μ2 id = some u := fun id u hd hu => by
    by_cases h : id ∈ keys H1
    · rw [(e1 id h).1]; exact hu
    · rw [(e2 id h).1]
      have hd' := memB_iff.1 hd
      rw [keys_app, List.mem_append] at hd'
      obtain ⟨o', ho', hro⟩ := roL_mem (hd'.resolve_left h)
      have h0 : assoc H0 id = some o' := assoc_of_mem hb6 ho'
      have hkb : keptB H0 H1 id = true := by unfold keptB; rw [h0]; simp [hro]
      rw [← (hkp id hkb).1]; exact hu
  refine ⟨μ2, ω2, AV.con_on hon hb3 hr, hs.gen (σ1 := { σ with H := updL σ.H (huH H0 H1), D := updL σ.D (nwH H0 H1) }) rfl rfl hm.kept (fun k ⟨id, o, ho, hk⟩ => (hs.own id o (hH _ (assoc_mem ho)) k hk).1) hle (fun id hid => ?_) (fun id => id ∈ keys H1) (fun id o ho => ?_) (fun i j hi hj hne hio hjo k hki => ?_) (fun q hq => ?_)⟩
  · have hnk : id ∉ (nwH H0 H1).map (·.1) := fun hk => by
      have := updL_mem (nwH H0 H1) σ.D id hk
      have h2 := (nwH_mem this).1
      simp only at h2 hid
      rw [hid] at h2
      cases h2
    simp only [updL_ne _ _ hnk] at hid
    have h1 : id ∉ keys H1 := fun h => by
      cases h0 : memB (keys H0) id with
      | true =>
        obtain ⟨o, _, ho⟩ := hin id h0
        obtain ⟨u, hu, _⟩ := hs.obj id o ho
        rw [hs.made id hid] at hu; cases hu
      | false => exact hnk (nwH_of h h0)
    rw [(e2 id h1).1]
    exact hs.made id hid
  · rcases key id o ho with ⟨h1, h2⟩ | ⟨h1, h2, h3⟩
    · refine .inr ⟨h1, ?_, fun k hk => ?_⟩
      · obtain ⟨u, hu, hh⟩ := hm.obj id o h2
        refine ⟨u, by rw [(e1 id h1).1]; exact hu, ?_⟩
        rw [(e1 id h1).2]
        have hro : isRo o = false := by have := List.all_eq_true.1 hb5 _ (assoc_mem h2); simpa using this
        have hh2 := AObj.holds_on hon (List.all_eq_true.1 hb4 _ (assoc_mem h2)) hh
        cases o with
        | box t cs => exact hh2
        | row d t xs => exact hh2
        | ro d xs => cases hro
        | raw e sz n cap vs => exact hh2
        | gen Φ st => exact hh2
      · rw [(e1 id h1).2] at hk
        have := hm.own id o h2 k hk
        exact ⟨this.1, this.2⟩
    · refine .inl ⟨h1, h2, (e2 id h1).2, fun k hk ⟨id', o', ho', hk'⟩ => ?_⟩
      have h4 := hH _ (assoc_mem ho')
      by_cases e : id = id'
      · subst e
        have hro := h3 _ (assoc_mem ho')
        obtain ⟨u, _, hh⟩ := hs.obj id o' h4
        cases o' with
        | box t cs => cases hro
        | row d t xs => cases hro
        | ro d xs => exact hh.1 k hk
        | raw e sz n cap vs => cases hro
        | gen Φ st => cases hro
      · exact hs.sep id id' o o' h2 h4 e k hk hk'
  · obtain ⟨oi, hoi⟩ := assoc_keys (memB_iff.2 hi)
    obtain ⟨oj, hoj⟩ := assoc_keys (memB_iff.2 hj)
    rw [(e1 i hi).2] at hki
    rw [(e1 j hj).2]
    exact hm.sep i j oi oj hoi hoj hne k hki
  · by_cases h : q.1 ∈ keys H1
    · rw [(e1 q.1 h).2]
      rcases hkey q.1 h with h0 | h0
      · exact (hkp q.1 (hkept q.1 h h0)).2
      · have := (hs.anc q hq).1; rw [hs.made q.1 h0] at this; cases this
    · exact (e2 q.1 h).2
/-- What a call asks. -/
theorem Sat.calls {H0 H1 ph : List (Nat × AObj)} {r : AV} {avs : List AV} {args : List GA} {vs : List Value} (hs : Sat X σ μ ω a w) (hH : ∀ q ∈ H0, σ.H q.1 = some q.2) (hB : callB σ.D H0 r H1 ph = true) (hm : GTM σ.H avs args ph) (hv : conV μ avs vs) : Mem ⟨w, S0 ω H0, []⟩ (assoc H0) μ ω w ∧ gokA w (S0 ω H0) μ args vs := by
  simp only [callB, Bool.and_eq_true] at hB
  obtain ⟨⟨⟨⟨_, _⟩, hb4⟩, _⟩, _⟩ := hB
  have hk : ∀ k, S0 ω H0 k → X.S k ∨ X.w0.heap.size ≤ k := fun k ⟨id, o, ho, hk⟩ => (hs.own id o (hH _ (assoc_mem ho)) k hk).1
  refine ⟨⟨Kp.refl _ _, fun id o ho => ?_, fun id o ho k hk => ⟨.inl ⟨id, o, ho, hk⟩, (hs.own id o (hH _ (assoc_mem ho)) k hk).2⟩, fun i j oi oj hi hj => hs.sep i j oi oj (hH _ (assoc_mem hi)) (hH _ (assoc_mem hj))⟩, hm.ok hs hk (fun q hq k hk ⟨id, o, ho, hk'⟩ => ?_) hv⟩
  · obtain ⟨v, hv, hh⟩ := hs.obj id o (hH _ (assoc_mem ho))
    exact ⟨v, hv, AObj.holds_cx (fun W hW => hs.kept.then_ hW hk) hh⟩
  · have h1 := hm.fits q hq
    have h2 := List.all_eq_true.1 hb4 q hq
    have h3 := hH _ (assoc_mem ho)
    rw [Bool.or_eq_true] at h2
    by_cases e : q.1 = id
    · rcases h2 with h2 | h2
      · obtain ⟨u, _, hh⟩ := hs.obj q.1 q.2 h1
        cases hq2 : q.2 with
        | box t cs => rw [hq2] at h2; cases h2
        | row d t xs => rw [hq2] at h2; cases h2
        | ro d xs => rw [hq2] at hh; exact hh.1 k hk
        | raw e sz n cap vs => rw [hq2] at h2; cases h2
        | gen Φ st => rw [hq2] at h2; cases h2
      · have := memB_iff.2 (keys_mem (assoc_mem ho))
        rw [← e] at this
        rw [this] at h2
        cases h2
    · exact hs.sep q.1 id q.2 o h1 h3 e k hk hk'
section
variable (hgo : GOn ops σ o lg) (hd : dstOk o.dst σ.n = true)
include hgo hd
theorem x_callS {f : Nat} {fn : Func} {ce : Operand} {xs : List Operand} {ts : Array TypeId} {avs : List (Nat × AV)} {args : List GA} {H0 H1 : List (Nat × AObj)} {r : AV} (hc : FnS P f args H0 r H1) (ho : o.op = .call { callee := .value ce, args := xs.toArray, argTypes := ts }) (hce : opnd σ.F ce = some (.o (.c (.func (.func f) #[] #[]))))
    (hf : P.funcs[f]? = some fn) (hname : (fn.name == "runtime.NumGoroutine") = false) (hb : fn.body.isSome = true) (hx : opndL σ.F (numL xs) = some avs) (hm : GTM σ.H (snds avs) args (gphT σ.H (snds avs) args)) (hH : HasL σ.H H0) (hB : callB σ.D H0 r H1 (gphT σ.H (snds avs) args) = true)
    (h : LX P X ops l (σ.app o.dst ⟨r, huH H0 H1, nwH H0 H1⟩) (fun C => K ((⟨lg ++ (look ce (.o (.c (.func (.func f) #[] #[]))) ++ lookL (numL xs) avs), H0 ++ gphT σ.H (snds avs) args⟩, ⟨r, huH H0 H1, nwH H0 H1⟩) :: C))) : LX P X ops (o :: l) σ K :=
  Lx.run (h := h) (e := ⟨r, huH H0 H1, nwH H0 H1⟩) hgo.1 hgo.2 (mem_app (look_fits hce) (lookL_fits hx)) (mem_app hH.fits hm.fits) (fun q hq => by
      have h1 := nwH_mem hq
      have hB' := hB
      simp only [callB, Bool.and_eq_true] at hB'
      have h2 := List.all_eq_true.1 hB'.1.1.1.1.1 q.1 h1.2.2
      rw [h1.2.1] at h2
      simpa using h2) (fun σ1 hn1 h1 h2 h3 μ ω a w hs1 K Q hK => by
    have hH1 : ∀ q ∈ H0, σ1.H q.1 = some q.2 := app_l h2
    have hm1 : GTM σ1.H (snds avs) args (gphT σ.H (snds avs) args) := hm.of (app_r h2)
    have hcon := conP_snds (hs1.evL (opndL_of hx (app_r h1)))
    rw [numL_map] at hcon
    have hB1 : callB σ1.D H0 r H1 (gphT σ.H (snds avs) args) = true := by
      simp only [callB, Bool.and_eq_true] at hB ⊢
      refine ⟨⟨⟨⟨⟨List.all_eq_true.2 (fun k hk => ?_), hB.1.1.1.1.2⟩, hB.1.1.1.2⟩, hB.1.1.2⟩, hB.1.2⟩, hB.2⟩
      have h4 := List.all_eq_true.1 hB.1.1.1.1.1 k hk
      cases hk0 : memB (keys H0) k with
      | true => rfl
      | false =>
        obtain ⟨q, hq, e⟩ := List.mem_map.1 (nwH_of hk hk0)
        have := h3 q hq
        rw [e] at this
        simp [this]
    obtain ⟨hmem, hok⟩ := hs1.calls hH1 hB1 hm1 hcon
    have he0 : a.eval ce = .func (.func f) #[] #[] := hs1.val (opnd_of hce (app_l h1))
    have he := PrintLast.enters_ hf hname hb (xs.map a.eval).toArray w
    have hrun : (execOp a.eval o).run P w = .ok (.enter f (xs.map a.eval).toArray) w := by
      unfold execOp
      simp [ho, resolve, he0, Deferred.ofValue, invoke]
      simpa [Act.eval] using he
    unfold Oper.wp
    rw [hrun]
    refine (hc w _ μ ω hmem hok).mono (fun e w' hr => ?_)
    obtain ⟨v, μ', ω', rfl, hrc, hM, hkp⟩ := hr
    obtain ⟨μ2, ω2, hc2, hs2⟩ := hs1.called hH1 hB1 hM hrc hkp
    exact hK _ _ _ _ (hs2.put (av := r) (dstOk_spec (hn1 ▸ hd)) hc2))
end
end
/-! Parts of rows; functions as values; the lesser and the greater. -/
theorem run_slicing {P : Program} {t e sz : Nat} (ht : sliceT P t e sz = true) (A : Option Addr) (len c : Nat) {lo hi : Option Value} {a b : Nat} (hlo : (lo = none ∧ a = 0) ∨ ∃ k, lo = some (.int k (a : Int))) (hhi : (hi = none ∧ b = len) ∨ ∃ k, hi = some (.int k (b : Int))) (hab : a ≤ b) (hb : b ≤ c) (w : World) :
    (Instr.sliceAt t (.slice A len c) lo hi none).run P w = .ok (.slice (if c = a then A else A.map (·.add (a * sz))) (b - a) (c - a)) w := by
  obtain ⟨hu, hsz⟩ := sliceT_parts ht
  have hB : ∀ (k : IntKind) (i m : Nat) (code : BoundsCode), i ≤ m → (Instr.sliceBound (.int k (i : Int)) m code).run P w = .ok i w := fun k i m code h => by
    have := run_sliceBound (P := P) (w := w) k (i : Int) m code (by omega) (by omega)
    simpa using this
  rcases hlo with ⟨rfl, rfl⟩ | ⟨k, rfl⟩ <;> rcases hhi with ⟨rfl, rfl⟩ | ⟨k', rfl⟩ <;> simp [Instr.sliceAt, run_underlying hu, Instr.slice, Instr.sliceBounds, run_size hsz, hB, hab, hb]
/-- A slice expression's bound. -/
def bndO (F : Nat → Option AV) : Option Operand → Option (Option Int)
  | none => some none
  | some y => match opnd F y with
    | some (.o (.c (.int _ i))) => some (some i)
    | _ => none
def lookB (F : Nat → Option AV) : Option Operand → List (Nat × AV)
  | none => []
  | some y => match opnd F y with
    | some av => look y av
    | none => []
theorem lookB_fits {F : Nat → Option AV} : ∀ {y : Option Operand}, ∀ q ∈ lookB F y, F q.1 = some q.2
  | none, q, h => by cases h
  | some y, q, h => by
    unfold lookB at h
    cases hy : opnd F y with
    | none => simp only [hy] at h; cases h
    | some av => simp only [hy] at h; exact look_fits hy q h
theorem bndO_of {F F1 : Nat → Option AV} : ∀ {y : Option Operand} {r : Option Int}, bndO F y = some r → (∀ q ∈ lookB F y, F1 q.1 = some q.2) → bndO F1 y = some r
  | none, r, h, _ => h
  | some y, r, h, hq => by
    unfold bndO at h ⊢
    unfold lookB at hq
    cases hy : opnd F y with
    | none => simp only [hy] at h; cases h
    | some av =>
      simp only [hy] at h hq
      simp only [opnd_of hy hq]
      exact h
def bndN (d : Nat) (r : Option Int) (a : Nat) : Prop := match r with
  | none => a = d
  | some i => i = (a : Int)
def idOf : AV → Option Nat
  | .o (.p j 0) => some j
  | _ => none
theorem idOf_eq {av : AV} {j : Nat} (h : idOf av = some j) : av = .o (.p j 0) := by
  unfold idOf at h
  split at h
  · cases h; rfl
  · cases h
def idsOf : List (Nat × AV) → Option (List Nat)
  | [] => some []
  | (_, av) :: l => match idOf av, idsOf l with
    | some j, some r => some (j :: r)
    | _, _ => none
theorem idsOf_con {μ : Mu} : ∀ {avs : List (Nat × AV)} {ids : List Nat} {vs : List Value}, idsOf avs = some ids → conV μ (snds avs) vs → ids.map μ = vs.map some
  | [], ids, vs, h, hc => by
    cases h
    cases vs with
    | nil => rfl
    | cons => exact hc.elim
  | (k, av) :: l, ids, vs, h, hc => by
    cases vs with
    | nil => exact hc.elim
    | cons v vs =>
      unfold idsOf at h
      cases h1 : idOf av with
      | none => rw [h1] at h; cases h
      | some j =>
        cases hl : idsOf l with
        | none => rw [h1, hl] at h; cases h
        | some r =>
          rw [h1, hl] at h
          cases h
          have h3 := hc.1
          rw [idOf_eq h1] at h3
          obtain ⟨g, hg, e⟩ := h3
          rw [List.map_cons, List.map_cons, idsOf_con hl hc.2, hg, e]
section
variable {P : Program} {X : Cx} {ops : Array Oper} {o : Oper} {l : List Oper} {σ : St} {K : List (Pre × Eff) → St → Prop} {lg : List (Nat × AV)} {μ : Mu} {ω : Om} {a : Act} {w : World} {α : Type} {d : Kd α} {enc : α → List Value} {dec : List SV → Option α} {xs : List α}
theorem Sat.bnd (hs : Sat X σ μ ω a w) {y : Option Operand} {r : Option Int} {m dflt : Nat} (h : bndO σ.F y = some r) (hm : bndN dflt r m) : (y.map a.eval = none ∧ m = dflt) ∨ ∃ k, y.map a.eval = some (.int k (m : Int)) := by
  cases y with
  | none =>
    cases h
    exact .inl ⟨rfl, hm⟩
  | some y =>
    unfold bndO at h
    cases hy : opnd σ.F y with
    | none => simp only [hy] at h; cases h
    | some av =>
      simp only [hy] at h
      cases av with
      | o s => cases s with
        | c v => cases v with
          | int k i =>
            cases h
            have := hs.val hy
            refine .inr ⟨k, ?_⟩
            rw [Option.map_some, this, show i = (m : Int) from hm]
          | _ => cases h
        | _ => cases h
      | _ => cases h
theorem Rdb.at_ {id : Nat} {b : AObj} (hr : Rdb d xs b) (h : Sat X σ μ ω a w) (hH : σ.H id = some b) {x : Operand} (hx : opnd σ.F x = some (.o (.i id))) : ∃ A c, μ id = some (.slice A xs.length c) ∧ xs.length ≤ c ∧ d.C w A xs.length xs ∧ a.eval x = .slice A xs.length c := by
  obtain ⟨A, c, hm, hlc, hC⟩ := hr.get h hH
  have e1 : μ id = some (a.eval x) := (h.ev hx).1
  rw [hm] at e1
  injection e1 with e1
  exact ⟨A, c, hm, hlc, hC, e1.symm⟩
section
variable (hgo : GOn ops σ o lg) (hd : dstOk o.dst σ.n = true)
include hgo hd
/-- x[lo:hi] of a row. -/
theorem x_slice {t e n by_ : Nat} {z : Value} [hs : TSlice P t e] [he : TElem P e n by_ z] {x : Operand} {lo hi : Option Operand} {id m k : Nat} {b : AObj} {rl rh : Option Int} (ho : o.op = .slice t x lo hi none) (hx : opnd σ.F x = some (.o (.i id))) (hlo : bndO σ.F lo = some rl) (hhi : bndO σ.F hi = some rh) (hH : σ.H id = some b) (hr : Rdb d xs b) (hn : n = d.sz) (hm : bndN 0 rl m) (hk : bndN xs.length rh k) (hmk : m ≤ k) (hkl : k ≤ xs.length)
    (h : LX P X ops l (σ.app o.dst ⟨.o (.s id d.sz m (k - m)), [], []⟩) (fun C => K ((⟨lg ++ (look x (.o (.i id)) ++ (lookB σ.F lo ++ lookB σ.F hi)), [(id, b)]⟩, ⟨.o (.s id d.sz m (k - m)), [], []⟩) :: C))) : LX P X ops (o :: l) σ K :=
  Lx.val (h := h) hgo.1 hgo.2 hd (mem_app (look_fits hx) (mem_app lookB_fits lookB_fits)) (one_mem hH) (fun σ1 h1 h2 μ ω a w hs1 => by
    obtain ⟨A, c, hmu, hlc, hC, ev⟩ := hr.at_ hs1 (h2 _ List.mem_cons_self) (opnd_of hx (app_l h1))
    refine ⟨.slice (if c = m then A else A.map (·.add (m * d.sz))) (k - m) (c - m), ?_, A, xs.length, c, hmu, by omega, _, rfl, fun hc => ?_⟩
    · unfold execOp
      simp only [ho, ev]
      have := run_slicing (P := P) (t := t) (e := e) (sz := d.sz) (by rw [← hn]; exact sliceT_of (z := z) (by_ := by_)) A xs.length c (hs1.bnd (bndO_of hlo (app_l (app_r h1))) hm) (hs1.bnd (bndO_of hhi (app_r (app_r h1))) hk) hmk (by omega) w
      simp [this]
    · rcases hc with rfl | hc
      · by_cases h0 : c = 0
        · rw [if_pos h0]; cases A <;> simp [add_plain, Addr.add]
        · rw [if_neg h0]
      · rw [if_neg (by omega)])
/-- len of a part. -/
theorem x_lenS {t e n by_ : Nat} {z : Value} [hs : TSlice P t e] [he : TElem P e n by_ z] {x : Operand} {id sz lo m : Nat} (ho : o.op = .call { callee := .builtin .len, args := #[x], argTypes := #[t] }) (hx : opnd σ.F x = some (.o (.s id sz lo m)))
    (h : LX P X ops l (σ.app o.dst ⟨.o (.c (.int .i64 (m : Int))), [], []⟩) (fun C => K ((⟨lg ++ look x (.o (.s id sz lo m)), []⟩, ⟨.o (.c (.int .i64 (m : Int))), [], []⟩) :: C))) : LX P X ops (o :: l) σ K :=
  Lx.val (h := h) hgo.1 hgo.2 hd (look_fits hx) no_mem (fun σ1 h1 h2 μ ω a w hs1 => by
    obtain ⟨A, N, c, _, _, A', ev, _⟩ := hs1.ev (opnd_of hx h1)
    obtain ⟨hu, hsz⟩ := sliceT_parts (sliceT_of (P := P) (t := t) (e := e) (n := n) (by_ := by_) (z := z))
    refine ⟨_, ?_, rfl⟩
    unfold execOp
    simp [ho, resolve, invoke, builtin, ev, Builtin.len_, run_underlying hu, goInt])
/-- An element of a part. -/
theorem x_indexS {t e n by_ : Nat} {z : Value} [hs : TSlice P t e] [he : TElem P e n by_ z] {x y : Operand} {id lo m ix : Nat} {b : AObj} {k : IntKind} {i : Int} (ho : o.op = .indexAddr t x y) (hx : opnd σ.F x = some (.o (.s id d.sz lo m))) (hy : opnd σ.F y = some (.o (.c (.int k i)))) (hH : σ.H id = some b) (hr : Rdb d xs b) (hn : n = d.sz) (hi : i = (ix : Int)) (hlt : ix < m) (hle : lo + m ≤ xs.length)
    (h : LX P X ops l (σ.app o.dst ⟨.o (.e id d.sz (lo + ix) 0), [], []⟩) (fun C => K ((⟨lg ++ (look x (.o (.s id d.sz lo m)) ++ look y (.o (.c (.int k i)))), [(id, b)]⟩, ⟨.o (.e id d.sz (lo + ix) 0), [], []⟩) :: C))) : LX P X ops (o :: l) σ K :=
  Lx.val (h := h) hgo.1 hgo.2 hd (mem_app (look_fits hx) (look_fits hy)) (one_mem hH) (fun σ1 h1 h2 μ ω a w hs1 => by
    obtain ⟨A, c, hm, hlc, hC⟩ := hr.get hs1 (h2 _ List.mem_cons_self)
    obtain ⟨ad, hA, hcells⟩ := hC.2.2 (by have := hC.1; omega)
    subst hA
    obtain ⟨A0, N0, c0, hm0, hlc0, A', ev, hA'⟩ := hs1.ev (opnd_of hx (app_l h1))
    rw [hm] at hm0
    cases hm0
    have e2 := hs1.val (opnd_of hy (app_r h1))
    have hA'' := hA' (.inr (by omega))
    obtain ⟨hu, hsz⟩ := sliceT_parts (sliceT_of (P := P) (t := t) (e := e) (n := n) (by_ := by_) (z := z))
    have hz : 0 < d.sz := hn ▸ he.n
    obtain ⟨y0, hy0⟩ : ∃ y0, xs[lo + ix]? = some y0 := ⟨xs[lo + ix], List.getElem?_eq_getElem (by omega)⟩
    obtain ⟨cs, hlen, _, hcell⟩ := hcells (lo + ix) y0 hy0
    have hc0 : w.cell? (ad.add ((lo + ix) * d.sz)) = some (cs[0]'(by omega)) := hcell 0 _ (List.getElem?_eq_getElem (by omega))
    refine ⟨.pointer (some (ad.add ((lo + ix) * d.sz))), ?_, ad, xs.length, c, hm, ?_⟩
    · unfold execOp
      have hadd : (ad.add (lo * d.sz)).add (ix * d.sz) = ad.add ((lo + ix) * d.sz) := by
        rw [Nat.add_mul]
        generalize lo * d.sz = p
        generalize ix * d.sz = q
        unfold Addr.add
        by_cases hp : p = 0
        · subst hp; simp
        · by_cases hq : q = 0
          · subst hq; simp [hp]
          · simp [hp, hq, Nat.add_assoc]
      simp only [ho, ev, e2, hi, hA'']
      simp [Instr.indexAt, asIntOf, run_underlying hu, run_size hsz, hlt, hn, hadd]
    · rw [Nat.add_zero, ← spot_of_cell hc0])
theorem x_min {x y : Operand} {ts : Array TypeId} {p q : Int} (ho : o.op = .call { callee := .builtin .min, args := #[x, y], argTypes := ts }) (hx : opnd σ.F x = some (.o (.c (.int .i64 p)))) (hy : opnd σ.F y = some (.o (.c (.int .i64 q))))
    (h : LX P X ops l (σ.app o.dst ⟨.o (.c (.int .i64 (min p q))), [], []⟩) (fun C => K ((⟨lg ++ (look x (.o (.c (.int .i64 p))) ++ look y (.o (.c (.int .i64 q)))), []⟩, ⟨.o (.c (.int .i64 (min p q))), [], []⟩) :: C))) : LX P X ops (o :: l) σ K :=
  Lx.val (h := h) hgo.1 hgo.2 hd (mem_app (look_fits hx) (look_fits hy)) no_mem (fun σ1 h1 h2 μ ω a w hs1 => by
    have e1 := hs1.val (opnd_of hx (app_l h1))
    have e2 := hs1.val (opnd_of hy (app_r h1))
    refine ⟨_, ?_, rfl⟩
    have : (if q < p then q else p) = min p q := by split <;> omega
    unfold execOp
    simp [ho, resolve, invoke, builtin, e1, e2, run_min_int2, this])
theorem x_max {x y : Operand} {ts : Array TypeId} {p q : Int} (ho : o.op = .call { callee := .builtin .max, args := #[x, y], argTypes := ts }) (hx : opnd σ.F x = some (.o (.c (.int .i64 p)))) (hy : opnd σ.F y = some (.o (.c (.int .i64 q))))
    (h : LX P X ops l (σ.app o.dst ⟨.o (.c (.int .i64 (max p q))), [], []⟩) (fun C => K ((⟨lg ++ (look x (.o (.c (.int .i64 p))) ++ look y (.o (.c (.int .i64 q)))), []⟩, ⟨.o (.c (.int .i64 (max p q))), [], []⟩) :: C))) : LX P X ops (o :: l) σ K :=
  Lx.val (h := h) hgo.1 hgo.2 hd (mem_app (look_fits hx) (look_fits hy)) no_mem (fun σ1 h1 h2 μ ω a w hs1 => by
    have e1 := hs1.val (opnd_of hx (app_l h1))
    have e2 := hs1.val (opnd_of hy (app_r h1))
    refine ⟨_, ?_, rfl⟩
    have : (if p < q then q else p) = max p q := by split <;> omega
    unfold execOp
    simp [ho, resolve, invoke, builtin, e1, e2, run_max_int2, this])
/-- A function's value that holds boxes. -/
theorem x_makeF {fn : Fn} {xs : List Operand} {avs : List (Nat × AV)} {ids : List Nat} (ho : o.op = .makeFunc fn #[] xs.toArray) (hx : opndL σ.F (numL xs) = some avs) (hi : idsOf avs = some ids)
    (h : LX P X ops l (σ.app o.dst ⟨.o (.f fn ids), [], []⟩) (fun C => K ((⟨lg ++ lookL (numL xs) avs, []⟩, ⟨.o (.f fn ids), [], []⟩) :: C))) : LX P X ops (o :: l) σ K :=
  Lx.val (h := h) hgo.1 hgo.2 hd (lookL_fits hx) no_mem (fun σ1 h1 h2 μ ω a w hs1 => by
    have hcon := conP_snds (hs1.evL (opndL_of hx h1))
    rw [numL_map] at hcon
    refine ⟨.func fn #[] (xs.map a.eval).toArray, ?_, xs.map a.eval, ?_, rfl⟩
    · unfold execOp
      simp [ho, Instr.makeFunc]
    · exact idsOf_con hi hcon)
end
/-- A call of a function's value that holds boxes. -/
theorem x_callF (hgo : GOn ops σ o lg) (hd : dstOk o.dst σ.n = true) {f : Nat} {ids : List Nat} {fn : Func} {ce : Operand} {xs : List Operand} {ts : Array TypeId} {avs : List (Nat × AV)} {args : List GA} {H0 H1 : List (Nat × AObj)} {r : AV} (hc : FnS P f args H0 r H1) (ho : o.op = .call { callee := .value ce, args := xs.toArray, argTypes := ts }) (hce : opnd σ.F ce = some (.o (.f (.func f) ids)))
    (hf : P.funcs[f]? = some fn) (hname : (fn.name == "runtime.NumGoroutine") = false) (hb : fn.body.isSome = true) (hx : opndL σ.F (numL xs) = some avs) (hm : GTM σ.H (snds avs ++ ids.map (fun i => .o (.p i 0))) args (gphT σ.H (snds avs ++ ids.map (fun i => .o (.p i 0))) args)) (hH : HasL σ.H H0) (hids : ids.all (fun i => H0.any (fun q => Nat.beq q.1 i && (match q.2 with | .box _ _ => true | _ => false))) = true) (hB : callB σ.D H0 r H1 (gphT σ.H (snds avs ++ ids.map (fun i => .o (.p i 0))) args) = true)
    (h : LX P X ops l (σ.app o.dst ⟨r, huH H0 H1, nwH H0 H1⟩) (fun C => K ((⟨lg ++ (look ce (.o (.f (.func f) ids)) ++ lookL (numL xs) avs), H0 ++ gphT σ.H (snds avs ++ ids.map (fun i => .o (.p i 0))) args⟩, ⟨r, huH H0 H1, nwH H0 H1⟩) :: C))) : LX P X ops (o :: l) σ K :=
  Lx.run (h := h) (e := ⟨r, huH H0 H1, nwH H0 H1⟩) hgo.1 hgo.2 (mem_app (look_fits hce) (lookL_fits hx)) (mem_app hH.fits hm.fits) (fun q hq => by
      have h1 := nwH_mem hq
      have hB' := hB
      simp only [callB, Bool.and_eq_true] at hB'
      have h2 := List.all_eq_true.1 hB'.1.1.1.1.1 q.1 h1.2.2
      rw [h1.2.1] at h2
      simpa using h2) (fun σ1 hn1 h1 h2 h3 μ ω a w hs1 K Q hK => by
    have hH1 : ∀ q ∈ H0, σ1.H q.1 = some q.2 := app_l h2
    have hm1 := hm.of (H1 := σ1.H) (app_r h2)
    have hcon := conP_snds (hs1.evL (opndL_of hx (app_r h1)))
    rw [numL_map] at hcon
    obtain ⟨us, hus, efn⟩ := hs1.ev (opnd_of hce (app_l h1))
    have hcapt : conV μ (ids.map (fun i => AV.o (.p i 0))) us := by
      have key : ∀ (ids : List Nat) (us : List Value), (∀ i ∈ ids, ∃ t cs, σ1.H i = some (.box t cs)) → ids.map μ = us.map some → conV μ (ids.map (fun i => AV.o (.p i 0))) us := by
        intro ids
        induction ids with
        | nil => intro us _ h; cases us with
          | nil => trivial
          | cons => simp at h
        | cons i ids ih => intro us hb h; cases us with
          | nil => simp at h
          | cons u us =>
            simp only [List.map_cons, List.cons.injEq] at h
            obtain ⟨t, cs, hbx⟩ := hb i List.mem_cons_self
            obtain ⟨g, vs, hg, _⟩ := hs1.box hbx
            refine ⟨⟨g, hg, ?_⟩, ih us (fun j hj => hb j (List.mem_cons_of_mem _ hj)) h.2⟩
            have := h.1
            rw [hg] at this
            injection this with this
            exact this.symm
      refine key ids us (fun i hi => ?_) hus
      have := List.all_eq_true.1 hids i hi
      obtain ⟨q, hq, hq2⟩ := List.any_eq_true.1 this
      rw [Bool.and_eq_true] at hq2
      have e := Nat.eq_of_beq_eq_true hq2.1
      cases hq3 : q.2 with
      | box t cs => exact ⟨t, cs, by rw [← e, ← hq3]; exact hH1 q hq⟩
      | row d t xs => rw [hq3] at hq2; cases hq2.2
      | ro d xs => rw [hq3] at hq2; cases hq2.2
      | raw e sz n cap vs => rw [hq3] at hq2; cases hq2.2
      | gen Φ st => rw [hq3] at hq2; cases hq2.2
    have happ : ∀ (l m : List AV) (vs us : List Value), conV μ l vs → conV μ m us → conV μ (l ++ m) (vs ++ us) := by
      intro l
      induction l with
      | nil => intro m vs us h k; cases vs with
        | nil => exact k
        | cons => exact h.elim
      | cons y l ih => intro m vs us h k; cases vs with
        | nil => exact h.elim
        | cons v vs => exact ⟨h.1, ih m vs us h.2 k⟩
    have hcon2 := happ _ _ _ _ hcon hcapt
    have hB1 : callB σ1.D H0 r H1 (gphT σ.H (snds avs ++ ids.map (fun i => .o (.p i 0))) args) = true := by
      simp only [callB, Bool.and_eq_true] at hB ⊢
      refine ⟨⟨⟨⟨⟨List.all_eq_true.2 (fun k hk => ?_), hB.1.1.1.1.2⟩, hB.1.1.1.2⟩, hB.1.1.2⟩, hB.1.2⟩, hB.2⟩
      have h4 := List.all_eq_true.1 hB.1.1.1.1.1 k hk
      cases hk0 : memB (keys H0) k with
      | true => rfl
      | false =>
        obtain ⟨q, hq, e⟩ := List.mem_map.1 (nwH_of hk hk0)
        have := h3 q hq
        rw [e] at this
        simp [this]
    obtain ⟨hmem, hok⟩ := hs1.calls hH1 hB1 hm1 hcon2
    have he := PrintLast.enters_ hf hname hb (xs.map a.eval ++ us).toArray w
    have hrun : (execOp a.eval o).run P w = .ok (.enter f (xs.map a.eval ++ us).toArray) w := by
      unfold execOp
      simp [ho, resolve, efn, Deferred.ofValue, invoke]
      simpa [Act.eval] using he
    unfold Oper.wp
    rw [hrun]
    refine (hc w _ μ ω hmem hok).mono (fun e w' hr => ?_)
    obtain ⟨v, μ', ω', rfl, hrc, hM, hkp⟩ := hr
    obtain ⟨μ2, ω2, hc2, hs2⟩ := hs1.called hH1 hB1 hM hrc hkp
    exact hK _ _ _ _ (hs2.put (av := r) (dstOk_spec (hn1 ▸ hd)) hc2))
end
/-! ### a row's front becomes the row -/
theorem Kd.R_take {α : Type} {d : Kd α} {e base : Nat} {w : World} {ok : Nat → Prop} {A : Option Addr} {n c k : Nat} {xs : List α} (h : d.R e w base ok (.slice A n c) xs) (hk : k ≤ xs.length) : d.R e w base ok (.slice A k c) (xs.take k) := by
  obtain ⟨h0, inner, ho, hr⟩ := h
  have hown : Value.ownBlock (.slice A k c) = Value.ownBlock (.slice A n c) := by cases A <;> rfl
  have hlt : (xs.take k).length = k := by rw [List.length_take]; omega
  have hle : k * d.sz ≤ xs.length * d.sz := Nat.mul_le_mul_right _ hk
  refine ⟨fun j hj => h0 j (hown ▸ hj), inner.take (k * d.sz), ⟨by rw [List.length_take, hr.1, hlt]; omega, ?_⟩, by rw [List.length_take, hr.1, hlt]; omega, fun j p hj => ?_⟩
  · rcases ho.2 with ⟨e1, h1⟩ | ⟨g, cap, cur, e1, hg, hh, hc, hm, hs, ht⟩
    · cases e1
      have : k = 0 := by omega
      subst this
      exact .inl ⟨rfl, by simp⟩
    · cases e1
      refine .inr ⟨g, c, cur, by rw [hlt], hg, hh, by rw [hlt]; omega, hm, hs, ?_⟩
      rw [hlt, ← ht, List.take_take, Nat.min_eq_left hle]
  · have hj1 : j < k := by have := (List.getElem?_eq_some_iff.1 hj).1; omega
    rw [List.getElem?_take_of_lt hj1] at hj
    have h2 := hr.2 j p hj
    have e3 : ((inner.take (k * d.sz)).drop (j * d.sz)).take d.sz = (inner.drop (j * d.sz)).take d.sz := by
      rw [List.drop_take, List.take_take, Nat.min_eq_left]
      have : j * d.sz + d.sz ≤ k * d.sz := by rw [← Nat.succ_mul]; exact Nat.mul_le_mul_right _ hj1
      omega
    rw [e3, hown]
    exact h2
def SV.sb (id nid : Nat) : SV → SV
  | .s j z lo m => bif Nat.beq j id then .s nid z lo m else .s j z lo m
  | u => u
def TV.sb (id nid : Nat) : TV → TV
  | .o s => .o (s.sb id nid)
  | .a l => .a (l.map (SV.sb id nid))
def AV.sb (id nid : Nat) : AV → AV
  | .o s => .o (s.sb id nid)
  | .a l => .a (l.map (SV.sb id nid))
  | .t l => .t (l.map (TV.sb id nid))
  | .x => .x
def AObj.sb (id nid : Nat) : AObj → AObj
  | .box t cs => .box t (cs.map (SV.sb id nid))
  | .row d t xs => .row d t xs
  | .ro d xs => .ro d xs
  | .raw e sz n cap vs => .raw e sz n cap vs
  | .gen Φ st => .gen Φ st
def St.trim (σ : St) (id nid : Nat) (ob : AObj) : St := { F := fun t => (σ.F t).map (AV.sb id nid), H := fun j => bif Nat.beq j nid then some ob else bif Nat.beq j id then none else (σ.H j).map (AObj.sb id nid), D := upd σ.D nid true, n := σ.n }
theorem add_zero_ (A : Addr) : A.add 0 = A := by simp [Addr.add]
section
variable {P : Program} {X : Cx} {σ : St} {μ ν : Mu} {ω : Om} {a : Act} {w : World} {id n nid : Nat} {A : Option Addr} {N c : Nat}
theorem SV.con_sb (hle : Le μ ν) (h1 : μ id = some (.slice A N c)) (h2 : ν nid = some (.slice A n c)) {s : SV} {v : Value} (hc : s.con μ v) : (s.sb id nid).con ν v := by
  cases s with
  | s j z lo m =>
    show SV.con ν (bif Nat.beq j id then .s nid z lo m else .s j z lo m) v
    cases hb : Nat.beq j id with
    | false => exact SV.con_mono (s := .s j z lo m) hle hc
    | true =>
      rw [Nat.beq_eq] at hb
      subst hb
      obtain ⟨A0, N0, c0, hm, hl, hA⟩ := hc
      rw [h1] at hm
      cases hm
      exact ⟨A, n, c, h2, hl, hA⟩
  | c u => exact SV.con_mono hle hc
  | i j => exact SV.con_mono (s := .i j) hle hc
  | p j off => exact SV.con_mono (s := .p j off) hle hc
  | e j z ix off => exact SV.con_mono (s := .e j z ix off) hle hc
  | f fn l => exact SV.con_mono (s := .f fn l) hle hc
theorem conL_sb (hle : Le μ ν) (h1 : μ id = some (.slice A N c)) (h2 : ν nid = some (.slice A n c)) : ∀ {l : List SV} {vs : List Value}, conL μ l vs → conL ν (l.map (SV.sb id nid)) vs
  | [], [], _ => trivial
  | _ :: _, _ :: _, hc => ⟨SV.con_sb hle h1 h2 hc.1, conL_sb hle h1 h2 hc.2⟩
  | [], _ :: _, hc => hc.elim
  | _ :: _, [], hc => hc.elim
theorem TV.con_sb (hle : Le μ ν) (h1 : μ id = some (.slice A N c)) (h2 : ν nid = some (.slice A n c)) {s : TV} {v : Value} (hc : s.con μ v) : (s.sb id nid).con ν v := by
  cases s with
  | o s => exact SV.con_sb hle h1 h2 hc
  | a l => obtain ⟨vs, e, hc⟩ := hc; exact ⟨vs, e, conL_sb hle h1 h2 hc⟩
theorem conT_sb (hle : Le μ ν) (h1 : μ id = some (.slice A N c)) (h2 : ν nid = some (.slice A n c)) : ∀ {l : List TV} {vs : List Value}, conT μ l vs → conT ν (l.map (TV.sb id nid)) vs
  | [], [], _ => trivial
  | _ :: _, _ :: _, hc => ⟨TV.con_sb hle h1 h2 hc.1, conT_sb hle h1 h2 hc.2⟩
  | [], _ :: _, hc => hc.elim
  | _ :: _, [], hc => hc.elim
theorem AV.con_sb (hle : Le μ ν) (h1 : μ id = some (.slice A N c)) (h2 : ν nid = some (.slice A n c)) {s : AV} {v : Value} (hc : s.con μ v) : (s.sb id nid).con ν v := by
  cases s with
  | o s => exact SV.con_sb hle h1 h2 hc
  | a l => obtain ⟨vs, e, hc⟩ := hc; exact ⟨vs, e, conL_sb hle h1 h2 hc⟩
  | t l => obtain ⟨vs, e, hc⟩ := hc; exact ⟨vs, e, conT_sb hle h1 h2 hc⟩
  | x => trivial
theorem Sat.trim {α : Type} {d : Kd α} {t : Nat} {xs : List α} (h : Sat X σ μ ω a w) (hH : σ.H id = some (.row d t xs)) (hk : n ≤ xs.length) (hid : σ.D nid = false) : ∃ μ' ω', Sat X (σ.trim id nid (.row d t (xs.take n))) μ' ω' a w := by
  obtain ⟨v, hv, B, hR⟩ := h.obj id _ hH
  obtain ⟨A, c, rfl, hlc, _⟩ := Kd.R_reads (Kd.S_R hR)
  have h0 := h.made nid hid
  have hne : nid ≠ id := fun e => by rw [e] at h0; rw [h0] at hv; cases hv
  have hle : Le μ (upd μ nid (some (.slice A n c))) := Up_upd h0
  have h2 : upd μ nid (some (.slice A n c)) nid = some (.slice A n c) := upd_same _ _ _
  have key : ∀ j oj, (σ.trim id nid (.row d t (xs.take n))).H j = some oj → (j = nid ∧ oj = .row d t (xs.take n)) ∨ (j ≠ nid ∧ j ≠ id ∧ ∃ o, σ.H j = some o ∧ oj = o.sb id nid) := fun j oj hj => by
    unfold St.trim at hj
    simp only at hj
    cases e1 : Nat.beq j nid with
    | true => rw [e1] at hj; simp only [cond_true, Option.some.injEq] at hj; exact .inl ⟨Nat.eq_of_beq_eq_true e1, hj.symm⟩
    | false =>
      rw [e1] at hj
      cases e2 : Nat.beq j id with
      | true => rw [e2] at hj; cases hj
      | false =>
        rw [e2] at hj
        simp only [cond_false, Option.map_eq_some_iff] at hj
        obtain ⟨o, ho, e⟩ := hj
        exact .inr ⟨fun e => by subst e; simp at e1, fun e => by subst e; simp at e2, o, ho, e.symm⟩
  refine ⟨upd μ nid (some (.slice A n c)), upd ω nid (ω id), h.kept, h.size, h.defers, fun t' av ht => ?_, fun j hj => ?_, fun j oj hj => ?_, fun j oj hj k hk => ?_, fun i j oi oj hi hj hij k hki hkj => ?_, fun q hq => ?_⟩
  · obtain ⟨av0, hav, rfl⟩ := Option.map_eq_some_iff.1 ht
    obtain ⟨u, hu, hc⟩ := h.slot t' av0 hav
    exact ⟨u, hu, AV.con_sb hle hv h2 hc⟩
  · by_cases e : j = nid
    · subst e; simp [St.trim, upd_same] at hj
    · rw [upd_ne _ e]; exact h.made j (by simpa [St.trim, upd_ne _ e] using hj)
  · rcases key j oj hj with ⟨rfl, rfl⟩ | ⟨n1, n2, o, ho, rfl⟩
    · exact ⟨_, upd_same _ _ _, B, by rw [upd_same]; exact Kd.S_take hR hk⟩
    · obtain ⟨u, hu, hh⟩ := h.obj j o ho
      refine ⟨u, hle _ _ hu, ?_⟩
      rw [upd_ne _ n1]
      cases o with
      | box t cs => obtain ⟨g, vs, h1, h2', h3, h4, h5⟩ := hh; exact ⟨g, vs, h1, h2', h3, conL_sb hle hv h2 h4, h5⟩
      | row d t xs => exact hh
      | ro d xs => exact hh
      | raw e sz n cap vs => exact hh
      | gen Φ st => exact hh
  · rcases key j oj hj with ⟨rfl, rfl⟩ | ⟨n1, n2, o, ho, rfl⟩
    · rw [upd_same] at hk; exact h.own id _ hH k hk
    · rw [upd_ne _ n1] at hk; exact h.own j o ho k hk
  · rcases key i oi hi with ⟨rfl, rfl⟩ | ⟨n1, n2, o, ho, rfl⟩
    · rcases key j oj hj with ⟨rfl, rfl⟩ | ⟨m1, m2, o', ho', rfl⟩
      · exact hij rfl
      · rw [upd_same] at hki; rw [upd_ne _ m1] at hkj; exact h.sep id j _ o' hH ho' (Ne.symm m2) k hki hkj
    · rw [upd_ne _ n1] at hki
      rcases key j oj hj with ⟨rfl, rfl⟩ | ⟨m1, m2, o', ho', rfl⟩
      · rw [upd_same] at hkj; exact h.sep i id o _ ho hH n2 k hki hkj
      · rw [upd_ne _ m1] at hkj; exact h.sep i j o o' ho ho' hij k hki hkj
  · have h3 := h.anc q hq
    have hne2 : q.1 ≠ nid := fun e => by rw [e, h0] at h3; cases h3.1
    exact ⟨hle _ _ h3.1, by rw [upd_ne _ hne2]; exact h3.2⟩
theorem ax_trim {Q : Post} {cd : Code} {α : Type} {d : Kd α} {t : Nat} {xs : List α} (id n nid : Nat) (hH : σ.H id = some (.row d t xs)) (hk : n ≤ xs.length) (hid : σ.D nid = false) (h : AX P X cd (σ.trim id nid (.row d t (xs.take n))) Q) : AX P X cd σ Q := fun μ ω a w hs => by
  obtain ⟨μ', ω', hs'⟩ := hs.trim hH hk hid
  exact h μ' ω' a w hs'
theorem ends_trim {fn : Func} {R : Ending → World → Prop} {α : Type} {d : Kd α} {t : Nat} {xs : List α} (id n nid : Nat) (hH : σ.H id = some (.row d t xs)) (hk : n ≤ xs.length) (hid : σ.D nid = false) (h : Ends P X fn R .ret (σ.trim id nid (.row d t (xs.take n)))) : Ends P X fn R .ret σ := fun μ ω a w hs => by
  obtain ⟨μ', ω', hs'⟩ := hs.trim hH hk hid
  exact h μ' ω' a w hs'
end
theorem whole_con {X : Cx} {σ : St} {μ : Mu} {ω : Om} {a : Act} {w : World} {id m : Nat} {b : AObj} {α : Type} {d : Kd α} {xs : List α} {v : Value} (hs : Sat X σ μ ω a w) (hH : σ.H id = some b) (hr : Rdb d xs b) (hm : m = xs.length) (hc : (SV.s id d.sz 0 m).con μ v) : (SV.i id).con μ v := by
  obtain ⟨A, c, hmu, hl, _⟩ := hr.get hs hH
  obtain ⟨A0, N, c0, hmu0, _, A', rfl, hA⟩ := hc
  rw [hmu] at hmu0
  cases hmu0
  have hA := hA (.inl rfl)
  have e : A' = A := by rw [hA]; cases A <;> simp [add_zero_]
  subst e
  subst hm
  exact ⟨hmu, rfl⟩
theorem item_whole {P : Program} {σ : St} {r : ResultVar} {cs : List SV} {j id m : Nat} {b : AObj} {α : Type} {d : Kd α} {xs : List α} (hi : Item P σ r (.a cs)) (hs : cs[j]? = some (.s id d.sz 0 m)) (hH : σ.H id = some b) (hr : Rdb d xs b) (hm : m = xs.length) : Item P σ r (.a (cs.set j (.i id))) := fun X μ ω a w hsat => by
  obtain ⟨v, hv, vs, rfl, hc⟩ := hi X μ ω a w hsat
  refine ⟨_, hv, vs, rfl, ?_⟩
  obtain ⟨u, hu, hcu⟩ := conL_get hc hs
  have h1 := conL_set hc j (whole_con hsat hH hr hm hcu)
  have h2 : vs.set j u = vs := by
    obtain ⟨hlt, e⟩ := List.getElem?_eq_some_iff.1 hu
    rw [← e, List.set_getElem_self]
  rw [h2] at h1
  exact h1
theorem item_wholeO {P : Program} {σ : St} {r : ResultVar} {id m : Nat} {b : AObj} {α : Type} {d : Kd α} {xs : List α} (hi : Item P σ r (.o (.s id d.sz 0 m))) (hH : σ.H id = some b) (hr : Rdb d xs b) (hm : m = xs.length) : Item P σ r (.o (.i id)) := fun X μ ω a w hsat => by
  obtain ⟨v, hv, hc⟩ := hi X μ ω a w hsat
  exact ⟨v, hv, whole_con hsat hH hr hm hc⟩
/-! ### contracts of one make told as another -/
def SArg.gs : SArg → GS
  | .c v => .vl (.c v)
  | .r d _ xs => .r d xs
def Arg.ga : Arg → GA
  | .o s => .o s.gs
  | .a l => .a (l.map SArg.gs)
theorem SArg.ok_gs {w : World} {S : Nat → Prop} {μ : Mu} {s : SArg} {v : Value} (h : s.gs.ok w S μ v) : s.ok w v := by
  cases s with
  | c u => exact h
  | r d t xs => obtain ⟨A, c, e, hl, hC⟩ := h; exact ⟨A, c, e, hl, hC w (Kp.refl _ _)⟩
theorem okL_gs {w : World} {S : Nat → Prop} {μ : Mu} : ∀ {l : List SArg} {vs : List Value}, gokL w S μ (l.map SArg.gs) vs → okL w l vs
  | [], [], _ => trivial
  | _ :: _, _ :: _, h => ⟨SArg.ok_gs h.1, okL_gs h.2⟩
  | [], _ :: _, h => h.elim
  | _ :: _, [], h => h.elim
theorem Arg.ok_ga {w : World} {S : Nat → Prop} {μ : Mu} {s : Arg} {v : Value} (h : s.ga.ok w S μ v) : s.ok w v := by
  cases s with
  | o s => exact SArg.ok_gs h
  | a l => obtain ⟨vs, e, h⟩ := h; exact ⟨vs, e, okL_gs h⟩
theorem okA_ga {w : World} {S : Nat → Prop} {μ : Mu} : ∀ {l : List Arg} {vs : List Value}, gokA w S μ (l.map Arg.ga) vs → okA w l vs
  | [], [], _ => trivial
  | _ :: _, _ :: _, h => ⟨Arg.ok_ga h.1, okA_ga h.2⟩
  | [], _ :: _, h => h.elim
  | _ :: _, [], h => h.elim
theorem rngL_lt : ∀ {n k j : Nat}, j ∈ rngL n k → n ≤ j ∧ j < n + k
  | n, 0, j, h => by cases h
  | n, k + 1, j, h => by
    rcases List.mem_cons.1 h with e | h
    · omega
    · have := rngL_lt h; omega
theorem rngL_nodup : ∀ {n k : Nat}, nodupB (rngL n k) = true
  | n, 0 => rfl
  | n, k + 1 => by
    simp only [rngL, nodupB, Bool.and_eq_true, Bool.not_eq_true']
    refine ⟨?_, rngL_nodup⟩
    rw [← Bool.not_eq_true, memB_iff]
    intro h
    have := rngL_lt h
    omega
theorem trueL_keys : ∀ (l : List (Nat × AObj)), (trueL l).map (·.1) = keys l
  | [] => rfl
  | (k, o) :: l => by simp [trueL, keys, trueL_keys l]
/-- A contract that tells no names, as one that does. -/
theorem fnS_of_fnR {P : Program} {f : FuncId} {args : List Arg} {r : Res} (n : Nat) (h : FnR P f args r) : FnS P f (args.map Arg.ga) [] (r.av n) (r.objs n) := fun w vs μ ω _ hok => by
  refine (h w vs (okA_ga hok)).mono (fun e w' hr => ?_)
  obtain ⟨v, rfl, ⟨ow, ho1, ho2, hmade⟩, hbel⟩ := hr
  have h0 : Sat ⟨w, S0 ω [], []⟩ { F := fun _ => none, H := fun _ => none, D := fun _ => false, n := 0 } (fun _ => none) (fun _ => No_) { tmps := #[], defers := [] } w' :=
    { kept := Kp.of_below hbel _, size := rfl, defers := rfl, slot := fun _ _ h => (by cases h), made := fun _ _ => rfl, obj := fun _ _ h => (by cases h), own := fun _ _ h => (by cases h), sep := fun _ _ _ _ h => (by cases h), anc := fun _ h => (by cases h) }
  obtain ⟨μ2, ω2, _, hcon, hs3⟩ := Res.add (b := w.heap.size) (ow := ow) (fun j k hk => .inr (ho1 j k hk).1) ho1 ho2 (n := n) h0 (fun id oo hid => by cases hid) hmade (fun k _ _ => rfl)
  have hn : nodupB (keys (r.objs n)) = true := by rw [← trueL_keys, keys_res]; exact rngL_nodup
  have key : ∀ id o, assoc (r.objs n) id = some o → updL (fun _ => none) (someL (r.objs n)) id = some o := fun id o ho => by
    have hk : id ∈ (someL (r.objs n)).map (·.1) := by rw [someL_keys]; exact keys_mem (assoc_mem ho)
    obtain ⟨o', h1, h2⟩ := someL_mem (updL_mem (someL (r.objs n)) (fun _ => none) id hk)
    rw [h1, ← assoc_of_mem hn h2, ho]
  exact ⟨v, μ2, ω2, rfl, hcon, ⟨hs3.kept, fun id o ho => hs3.obj id o (key id o ho), fun id o ho => hs3.own id o (key id o ho), fun i j oi oj hi hj => hs3.sep i j oi oj (key i oi hi) (key j oj hj)⟩, fun id hid => by cases hid⟩
theorem endS {P : Program} {X : Cx} {σ : St} {fn : Func} {H0 H1 : List (Nat × AObj)} {r av : AV} (ρ : Nat → Nat) (hA : ancB X (memB (keys (H1 ++ roL H0))) ρ = true) (hsub : Sub σ (St.of σ.n [] (H1 ++ roL H0)) ρ) (hit : ItemsR P σ fn av) (he : av = r.ren ρ) (hok : r.ok (memB (keys (H1 ++ roL H0))) = true) : EndS P X fn H0 r H1 .ret σ := ⟨ρ, hA, hsub, he ▸ hit, hok⟩
theorem endS_normal {P : Program} {X : Cx} {σ : St} {fn : Func} {H0 H1 : List (Nat × AObj)} {r : AV} (h : EndS P X fn H0 r H1 .ret σ) : EndS P X fn H0 r H1 .normal σ := h
def gSlice : Op → Bool | .slice .. => true | _ => false
/-- A test that is decided already. -/
theorem x_binH {P : Program} {X : Cx} {ops : Array Oper} {o : Oper} {l : List Oper} {σ : St} {K : List (Pre × Eff) → St → Prop} {lg : List (Nat × AV)} (hgo : GOn ops σ o lg) (hd : dstOk o.dst σ.n = true) {op : BinOp} {T yT : TypeId} {x y : Operand} {u v : Value} {b b' : Bool} (ho : o.op = .binOp op T x y yT) (hx : opnd σ.F x = some (.o (.c u))) (hy : opnd σ.F y = some (.o (.c v)))
    (hr : ∀ w, (do eqGuard op T x y u v; binOp op T u v : Sem Value).run P w = .ok (.bool b) w) (hb : b = b') (h : LX P X ops l (σ.app o.dst ⟨.o (.c (.bool b')), [], []⟩) (fun C => K ((⟨lg ++ (look x (.o (.c u)) ++ look y (.o (.c v))), []⟩, ⟨.o (.c (.bool b')), [], []⟩) :: C))) : LX P X ops (o :: l) σ K := by
  subst hb
  exact Lx.bin hgo hd ho hx hy hr h
def gCmp : Op → Bool
  | .binOp op _ _ _ _ => match op with
    | .eql | .neq | .lss | .leq | .gtr | .geq => true
    | _ => false
  | _ => false
/-! Parts of a row that are written: clear, copy. -/
theorem setL_eq {β : Type _} : ∀ (us vs : List β) (k : Nat), k + us.length ≤ vs.length → setL vs k us = vs.take k ++ us ++ vs.drop (k + us.length)
  | [], vs, k, h => by simp [setL]
  | u :: us, vs, k, h => by
    simp only [List.length_cons] at h
    rw [setL, setL_eq us (vs.set k u) (k + 1) (by simp; omega)]
    have h1 : (vs.set k u).take (k + 1) = vs.take k ++ [u] := by
      rw [List.take_succ_eq_append_getElem (by simp; omega), List.getElem_set_self, List.take_set_of_le (Nat.le_refl k)]
    have h2 : (vs.set k u).drop (k + 1 + us.length) = vs.drop (k + 1 + us.length) := by rw [List.drop_set_of_lt (by omega)]
    rw [h1, h2, List.length_cons, show k + 1 + us.length = k + (us.length + 1) by omega]
    simp
theorem flatMap_take {α : Type} {enc : α → List Value} {n : Nat} (h : ∀ x, (enc x).length = n) : ∀ (xs : List α) (k : Nat), k ≤ xs.length → (xs.flatMap enc).take (k * n) = (xs.take k).flatMap enc
  | xs, 0, _ => by simp
  | x :: xs, k + 1, hk => by
    simp only [List.length_cons] at hk
    rw [List.flatMap_cons, List.take_succ_cons, List.flatMap_cons, Nat.succ_mul, Nat.add_comm, List.take_append, h, List.take_of_length_le (by rw [h]; omega), Nat.add_sub_cancel_left, flatMap_take h xs k (by omega)]
  | [], k + 1, hk => by simp at hk
theorem flatMap_drop {α : Type} {enc : α → List Value} {n : Nat} (h : ∀ x, (enc x).length = n) (xs : List α) (k : Nat) (hk : k ≤ xs.length) : (xs.flatMap enc).drop (k * n) = (xs.drop k).flatMap enc := by
  have h1 := List.take_append_drop (k * n) (xs.flatMap enc)
  rw [flatMap_take h xs k hk] at h1
  have h2 : xs.flatMap enc = (xs.take k).flatMap enc ++ (xs.drop k).flatMap enc := by rw [← List.flatMap_append, List.take_append_drop]
  rw [h2] at h1
  have h3 := List.append_cancel_left h1
  rw [h2]
  exact h3
section
variable {α : Type} {d : Kd α} {enc : α → List Value} {e B : Nat} {w : World} {own : Nat → Prop} {v : Value} {xs ys : List α}
/-- A stretch of an own row is written. -/
theorem R_seg (hf : Flat d enc) (hR : d.R e w B own v xs) {lo : Nat} (hle : lo + ys.length ≤ xs.length) (hpos : 0 < ys.length) (hsz : 0 < d.sz) : ∃ g c cur, v = .slice (some ⟨g, 0, none⟩) xs.length c ∧ own g ∧ w.heap[g]? = some (.cells cur e (0, 0)) ∧ xs.length * d.sz ≤ cur.size ∧
    ∀ w', w'.heap[g]? = some (.cells (setL cur.toList (lo * d.sz) (ys.flatMap enc)).toArray e (0, 0)) → d.R e w' B own v (xs.take lo ++ ys ++ xs.drop (lo + ys.length)) := by
  obtain ⟨h0, inner, ho, hr⟩ := hR
  have hin := reps_flat (enc := enc) (fun x cs h => (hf.2 _ _ _ _ _).1 h) xs inner hr
  rcases ho.2 with ⟨rfl, h1⟩ | ⟨g, cap, cur, rfl, hg, hh, hc, hm, hs, ht⟩
  · omega
  · have hcap : xs.length * d.sz ≤ cap * d.sz := Nat.mul_le_mul_right _ hc
    have hcl : cur.toList.length = cap * d.sz := by rw [Array.length_toList, hs]
    have hyl : (ys.flatMap enc).length = ys.length * d.sz := flatMap_len hf.len _
    have hmul : lo * d.sz + ys.length * d.sz ≤ xs.length * d.sz := by rw [← Nat.add_mul]; exact Nat.mul_le_mul_right _ hle
    have hnl : (xs.take lo ++ ys ++ xs.drop (lo + ys.length)).length = xs.length := by simp; omega
    refine ⟨g, cap, cur, rfl, h0 g rfl, hh, by omega, fun w' hb => ?_⟩
    refine ⟨h0, (xs.take lo ++ ys ++ xs.drop (lo + ys.length)).flatMap enc, ⟨flatMap_len hf.len _, .inr ⟨g, cap, _, by rw [hnl], hg, hb, by rw [hnl]; exact hc, hm, by simp [setL_length, hs], ?_⟩⟩, flatMap_len hf.len _, fun j x hj => (hf.2 _ _ _ _ _).2 (flatMap_at hf.len _ j x hj)⟩
    rw [hnl]
    have e1 : (setL cur.toList (lo * d.sz) (ys.flatMap enc)).take (xs.length * d.sz) = setL (cur.toList.take (xs.length * d.sz)) (lo * d.sz) (ys.flatMap enc) := setL_take _ _ _ _ (by omega) (by omega)
    rw [e1, ht, hin, setL_eq _ _ _ (by rw [hyl, flatMap_len hf.len xs]; omega), flatMap_take hf.len xs lo (by omega), hyl, ← Nat.add_mul, flatMap_drop hf.len xs _ hle, ← List.flatMap_append, ← List.flatMap_append]
end
theorem zeroCells_eq {α : Type} {enc : α → List Value} {z : Value} {z0 : α} (h : z.cells.toList = enc z0) (hp : 0 < z.cells.size) (m : Nat) : (Builtin.zeroCells z.cells m).toList = (List.replicate m z0).flatMap enc := by
  have hrep : ∀ k, (List.replicate k z0).flatMap enc = zrep k z.cells.toList := by
    intro k
    induction k with
    | zero => rfl
    | succ k ih => rw [List.replicate_succ, List.flatMap_cons, ih, zrep, h]
  rw [hrep]
  apply List.ext_getElem?
  intro i
  by_cases hi : i < m * z.cells.size
  · rw [zrep_get _ _ _ (by rw [Array.length_toList]; exact hi), Array.length_toList]
    have hlt : i % z.cells.size < z.cells.size := Nat.mod_lt _ (by omega)
    simp [Builtin.zeroCells, hi, hlt]
  · rw [List.getElem?_eq_none (by simp [Builtin.zeroCells]; omega), List.getElem?_eq_none (by rw [zrep_len, Array.length_toList]; omega)]
section
variable {P : Program} {X : Cx} {ops : Array Oper} {o : Oper} {l : List Oper} {σ : St} {K : List (Pre × Eff) → St → Prop} {lg : List (Nat × AV)} {μ : Mu} {ω : Om} {a : Act} {w : World} {α : Type} {d : Kd α} {enc : α → List Value} {dec : List SV → Option α} {xs : List α}
variable (hgo : GOn ops σ o lg) (hd : dstOk o.dst σ.n = true)
include hgo hd
/-- clear(x[lo:]) of an own row. -/
theorem x_clear {t e n by_ : Nat} {z : Value} [hs : TSlice P t e] [he : TElem P e n by_ z] [hk : KFlat d enc dec] {x : Operand} {id lo m : Nat} {z0 : α} (ho : o.op = .call { callee := .builtin .clear, args := #[x], argTypes := #[t] }) (hx : opnd σ.F x = some (.o (.s id d.sz lo m))) (hH : σ.H id = some (.row d e xs)) (hn : n = d.sz) (hz0 : dec (z.cells.toList.map SV.c) = some z0) (hl : lo + m = xs.length)
    (h : LX P X ops l (σ.app o.dst ⟨.o (.c (.tuple #[])), [(id, some (.row d e (xs.take lo ++ List.replicate m z0)))], []⟩) (fun C => K ((⟨lg ++ look x (.o (.s id d.sz lo m)), [(id, .row d e xs)]⟩, ⟨.o (.c (.tuple #[])), [(id, some (.row d e (xs.take lo ++ List.replicate m z0)))], []⟩) :: C))) : LX P X ops (o :: l) σ K :=
  Lx.run (h := h) (e := ⟨.o (.c (.tuple #[])), [(id, some (.row d e (xs.take lo ++ List.replicate m z0)))], []⟩) hgo.1 hgo.2 (look_fits hx) (one_mem hH) no_mem (fun σ1 hn1 h2 h4 h3 μ ω a w hs1 K Q hK => by
    have hH1 : σ1.H id = some (.row d e xs) := h4 _ List.mem_cons_self
    obtain ⟨v, hv, B, hR⟩ := hs1.obj id _ hH1
    obtain ⟨A, N, c, hm, hlc, A', ev, hA'⟩ := hs1.ev (opnd_of hx h2)
    obtain ⟨i0, hi, hzz⟩ := Option.map_eq_some_iff.1 he.h
    simp only [Prod.mk.injEq] at hzz
    have hzv : ∀ w, (zeroValue e).run P w = .ok z w := fun w => by simp [zeroValue, typeInfo, hi, hzz.1]
    have henc : z.cells.toList = enc z0 := by
      have h5 := hk.d _ _ hz0
      have h6 := conL_consts μ z.cells.toList
      rw [h5] at h6
      exact conL_eq h6
    have hsz : 0 < d.sz := hn ▸ he.n
    rcases Nat.eq_zero_or_pos m with h0 | hpos
    · subst h0
      have hrun : (execOp a.eval o).run P w = .ok (.value (.tuple #[])) w := by
        unfold execOp
        simp only [ho]
        cases A' <;> simp [resolve, invoke, builtin, ev, Builtin.clear_, run_underlying hs.h]
      unfold Oper.wp
      rw [hrun]
      have e1 : xs.take lo ++ List.replicate 0 z0 = xs := by rw [List.take_of_length_le (by omega)]; simp
      refine hK _ _ _ _ ((hs1.set (id := id) (o1 := .row d e (xs.take lo ++ List.replicate 0 z0)) hH1 hv (Kp.refl _ _) ⟨B, by rw [e1]; exact hR⟩).put (av := .o (.c (.tuple #[]))) (dstOk_spec (hn1 ▸ hd)) rfl)
    · obtain ⟨g, c', cur, rfl, hown, hb, hcs, hput⟩ := R_seg (lo := lo) (ys := List.replicate m z0) hk.f (Kd.S_R hR) (by simp; omega) (by simp; omega) hsz
      rw [hv] at hm
      cases hm
      have hA := hA' (.inr (by omega))
      rw [Option.map_some, add_plain, Nat.zero_add] at hA
      subst hA
      have hzc := zeroCells_eq (enc := enc) henc (by rw [he.c]; exact he.n) m
      have hlen : ((List.replicate m z0).flatMap enc).length = m * d.sz := by rw [flatMap_len hk.f.len]; simp
      have hmul : lo * d.sz + m * d.sz ≤ xs.length * d.sz := by rw [← Nat.add_mul, hl]; exact Nat.le_refl _
      obtain ⟨w', hr, hk', hb'⟩ := run_storeCells (P := P) (g := g) (off := lo * d.sz) (T := e) (Builtin.zeroCells z.cells m).toList 0 cur w hb (by rw [hzc, hlen]; omega) (by
        rw [hzc]
        intro u hu
        obtain ⟨y, _, hy⟩ := List.mem_flatMap.1 hu
        exact hk.f.one y u hy)
      have hrun : (execOp a.eval o).run P w = .ok (.value (.tuple #[])) w' := by
        obtain ⟨m', rfl⟩ : ∃ m', m = m' + 1 := ⟨m - 1, by omega⟩
        unfold execOp
        simp only [ho]
        simp [resolve, invoke, builtin, ev, Builtin.clear_, run_underlying hs.h, hzv, hr]
      unfold Oper.wp
      rw [hrun]
      rw [hzc, Nat.add_zero] at hb'
      have hR' := hput w' hb'
      have e1 : xs.take lo ++ List.replicate m z0 ++ xs.drop (lo + (List.replicate m z0).length) = xs.take lo ++ List.replicate m z0 := by rw [List.drop_of_length_le (by simp; omega), List.append_nil]
      rw [e1] at hR'
      exact hK _ _ _ _ ((hs1.set (id := id) (o1 := .row d e (xs.take lo ++ List.replicate m z0)) hH1 hv (hk'.mono (fun k hk => by rw [hk]; exact hown)) ⟨B, S_flat hk.f hR'⟩).put (av := .o (.c (.tuple #[]))) (dstOk_spec (hn1 ▸ hd)) rfl))
end
theorem item_full {P : Program} {σ : St} {t id : Nat} {b : AObj} {α : Type} {d : Kd α} {xs : List α} (h : σ.F t = some (.o (.i id))) (hH : σ.H id = some b) (hr : Rdb d xs b) : Item P σ (.tmp t) (.o (.s id d.sz 0 xs.length)) := fun X μ ω a w hs => by
  obtain ⟨v, hv, hc⟩ := hs.slot t _ h
  obtain ⟨A, c, hm, hl, _⟩ := hr.get hs hH
  have e := hc.1
  rw [hm] at e
  injection e with e
  refine ⟨v, by simp [resG, hv], A, xs.length, c, hm, by omega, A, e ▸ rfl, fun _ => ?_⟩
  cases A <;> simp [add_zero_]
/-! ### the first that is asked for -/
theorem find_at {α : Type} {l : List α} {p : α → Bool} {k : Nat} {x : α} (hx : l[k]? = some x) (hp : p x = true) (h : ∀ (j : Nat) (y : α), j < k → l[j]? = some y → p y = false) : l.findIdx? p = some k := by
  obtain ⟨hk, e⟩ := List.getElem?_eq_some_iff.1 hx
  rw [List.findIdx?_eq_some_iff_getElem]
  exact ⟨hk, by rw [e]; exact hp, fun j hj => by rw [h j _ hj (List.getElem?_eq_getElem (by omega))]; simp⟩
theorem find_none {α : Type} {l : List α} {p : α → Bool} (h : ∀ (j : Nat) (y : α), l[j]? = some y → p y = false) : l.findIdx? p = none := by
  rw [List.findIdx?_eq_none_iff]
  intro x hx
  obtain ⟨j, hj⟩ := List.mem_iff_getElem?.1 hx
  exact h j x hj
theorem find_none_all {α : Type} {l : List α} {p : α → Bool} (h : l.findIdx? p = none) : ∀ x ∈ l, p x = false := List.findIdx?_eq_none_iff.1 h
theorem find_some {α : Type} {l : List α} {p : α → Bool} {k : Nat} (h : l.findIdx? p = some k) : ∃ x, l[k]? = some x ∧ p x = true ∧ ∀ (j : Nat) (y : α), j < k → l[j]? = some y → p y = false := by
  obtain ⟨hk, hp, hb⟩ := List.findIdx?_eq_some_iff_getElem.1 h
  refine ⟨l[k], List.getElem?_eq_getElem hk, hp, fun j y hj hy => ?_⟩
  obtain ⟨_, e⟩ := List.getElem?_eq_some_iff.1 hy
  have := hb j hj
  rw [e] at this
  simpa using this
end Go.Proofs.Ytplcjkgbjapbmaa.C
