import Derived.Test.YtplcjkgbjapbmaaUp
import Derived.Test.YtplcjkgbjapbmaaUAxi
namespace Go.Proofs.Ytplcjkgbjapbmaa.C
open Go.RowKit Go.Proofs.YtplcjkgbjapbmaaW Go.Proofs.YtplcjkgbjapbmaaW.PrintWords Go.Proofs.Ytplcjkgbjapbmaa.U
set_option maxHeartbeats 1000000
set_option maxRecDepth 100000
set_option linter.unusedVariables false
set_option linter.unusedSimpArgs false
/-! A contract under other names. -/
section
variable {μ : Mu} {ρ : Nat → Nat}
theorem SV.con_iff {s : SV} {v : Value} : (s.ren ρ).con μ v ↔ s.con (fun id => μ (ρ id)) v := by
  cases s with
  | c u => exact Iff.rfl
  | i id => exact Iff.rfl
  | p id off => exact Iff.rfl
  | e id sz ix off => exact Iff.rfl
  | s id sz lo n => exact Iff.rfl
  | f fn l =>
    show (∃ vs : List Value, (l.map ρ).map μ = vs.map some ∧ v = .func fn #[] vs.toArray) ↔ (∃ vs : List Value, l.map (fun id => μ (ρ id)) = vs.map some ∧ v = .func fn #[] vs.toArray)
    rw [List.map_map]
    exact Iff.rfl
theorem conL_iff : ∀ {l : List SV} {vs : List Value}, conL μ (l.map (SV.ren ρ)) vs ↔ conL (fun id => μ (ρ id)) l vs
  | [], [] => Iff.rfl
  | _ :: _, _ :: _ => and_congr SV.con_iff conL_iff
  | [], _ :: _ => Iff.rfl
  | _ :: _, [] => Iff.rfl
theorem TV.con_iff {s : TV} {v : Value} : (s.ren ρ).con μ v ↔ s.con (fun id => μ (ρ id)) v := by
  cases s with
  | o s => exact SV.con_iff
  | a l => exact exists_congr fun vs => and_congr Iff.rfl conL_iff
theorem conT_iff : ∀ {l : List TV} {vs : List Value}, conT μ (l.map (TV.ren ρ)) vs ↔ conT (fun id => μ (ρ id)) l vs
  | [], [] => Iff.rfl
  | _ :: _, _ :: _ => and_congr TV.con_iff conT_iff
  | [], _ :: _ => Iff.rfl
  | _ :: _, [] => Iff.rfl
theorem AV.con_iff {s : AV} {v : Value} : (s.ren ρ).con μ v ↔ s.con (fun id => μ (ρ id)) v := by
  cases s with
  | o s => exact SV.con_iff
  | a l => exact exists_congr fun vs => and_congr Iff.rfl conL_iff
  | t l => exact exists_congr fun vs => and_congr Iff.rfl conT_iff
  | x => exact Iff.rfl
theorem AObj.holds_iff {X : Cx} {w : World} {o : AObj} {v : Value} {own : Nat → Prop} : (o.ren ρ).holds X w μ v own ↔ o.holds X w (fun id => μ (ρ id)) v own := by
  cases o with
  | box t cs => exact exists_congr fun g => exists_congr fun vs => and_congr Iff.rfl (and_congr Iff.rfl (and_congr Iff.rfl (and_congr conL_iff Iff.rfl)))
  | row d t xs => exact Iff.rfl
  | ro d xs => exact Iff.rfl
  | raw e sz n cap vs => exact Iff.rfl
  | gen Φ st => exact Iff.rfl
end
def GS.ren (ρ : Nat → Nat) : GS → GS
  | .vl s => .vl (s.ren ρ)
  | .r d xs => .r d xs
def GA.ren (ρ : Nat → Nat) : GA → GA
  | .o s => .o (s.ren ρ)
  | .a l => .a (l.map (GS.ren ρ))
def renH (ρ : Nat → Nat) : List (Nat × AObj) → List (Nat × AObj)
  | [] => []
  | (k, o) :: l => (ρ k, o.ren ρ) :: renH ρ l
theorem GS.ok_ren {w : World} {S : Nat → Prop} {μ : Mu} {ρ : Nat → Nat} {s : GS} {v : Value} (h : (s.ren ρ).ok w S μ v) : s.ok w S (fun id => μ (ρ id)) v := by
  cases s with
  | vl s => exact SV.con_iff.1 h
  | r d xs => exact h
theorem gokL_ren {w : World} {S : Nat → Prop} {μ : Mu} {ρ : Nat → Nat} : ∀ {l : List GS} {vs : List Value}, gokL w S μ (l.map (GS.ren ρ)) vs → gokL w S (fun id => μ (ρ id)) l vs
  | [], [], _ => trivial
  | _ :: _, _ :: _, h => ⟨GS.ok_ren h.1, gokL_ren h.2⟩
  | [], _ :: _, h => h.elim
  | _ :: _, [], h => h.elim
theorem gokA_ren {w : World} {S : Nat → Prop} {μ : Mu} {ρ : Nat → Nat} : ∀ {l : List GA} {vs : List Value}, gokA w S μ (l.map (GA.ren ρ)) vs → gokA w S (fun id => μ (ρ id)) l vs
  | [], [], _ => trivial
  | s :: _, _ :: _, h => ⟨by
      cases s with
      | o s => exact GS.ok_ren h.1
      | a l => obtain ⟨us, e, h1⟩ := h.1; exact ⟨us, e, gokL_ren h1⟩, gokA_ren h.2⟩
  | [], _ :: _, h => h.elim
  | _ :: _, [], h => h.elim
/-- The names are told apart. -/
def InjOn (ρ : Nat → Nat) (l : List Nat) : Prop := ∀ i j, i ∈ l → j ∈ l → ρ i = ρ j → i = j
theorem assoc_ren {ρ : Nat → Nat} : ∀ {H : List (Nat × AObj)} {L : List Nat} {id : Nat}, InjOn ρ L → (∀ k ∈ keys H, k ∈ L) → id ∈ L → assoc (renH ρ H) (ρ id) = (assoc H id).map (AObj.ren ρ)
  | [], _, _, _, _, _ => rfl
  | (k, o) :: H, L, id, hi, hk, hid => by
    unfold renH assoc
    have ih := assoc_ren (H := H) (L := L) (id := id) hi (fun j hj => hk j (List.mem_cons_of_mem _ hj)) hid
    by_cases e : id = k
    · subst e
      have e1 : Nat.beq (ρ id) (ρ id) = true := by rw [Nat.beq_eq]
      have e2 : Nat.beq id id = true := by rw [Nat.beq_eq]
      rw [e1, e2]
      rfl
    · have e1 : Nat.beq (ρ id) (ρ k) = false := by
        rw [← Bool.not_eq_true, Nat.beq_eq]
        exact fun h => e (hi id k hid (hk k List.mem_cons_self) h)
      have e2 : Nat.beq id k = false := by rw [← Bool.not_eq_true, Nat.beq_eq]; exact e
      rw [e1, e2]
      exact ih
theorem assoc_ren_some {ρ : Nat → Nat} : ∀ {H : List (Nat × AObj)} {j : Nat} {o : AObj}, assoc (renH ρ H) j = some o → ∃ k ∈ keys H, j = ρ k
  | [], _, _, h => by cases h
  | (k, o) :: H, j, o', h => by
    unfold renH assoc at h
    cases e1 : Nat.beq j (ρ k) with
    | true => exact ⟨k, List.mem_cons_self, Nat.eq_of_beq_eq_true e1⟩
    | false =>
      rw [e1] at h
      obtain ⟨k', h1, h2⟩ := assoc_ren_some (H := H) h
      exact ⟨k', List.mem_cons_of_mem _ h1, h2⟩
theorem isRo_ren {ρ : Nat → Nat} {o : AObj} : isRo (o.ren ρ) = isRo o := by cases o <;> rfl
theorem keys_ren {ρ : Nat → Nat} : ∀ {H : List (Nat × AObj)}, keys (renH ρ H) = (keys H).map ρ
  | [] => rfl
  | (k, o) :: H => by simp [renH, keys, keys_ren (H := H)]
/-- The same contract, under other names: L holds all names of H0, H1. -/
theorem FnS.rename {P : Program} {f : FuncId} {args : List GA} {H0 H1 : List (Nat × AObj)} {r : AV} (ρ : Nat → Nat) (L : List Nat) (h : FnS P f args H0 r H1) (hi : InjOn ρ L) (h0 : ∀ k ∈ keys H0, k ∈ L) (h1 : ∀ k ∈ keys H1, k ∈ L) (hr : r.ok (memB L) = true) (hH : H1.all (fun q => q.2.ok (memB L)) = true) : FnS P f (args.map (GA.ren ρ)) (renH ρ H0) (r.ren ρ) (renH ρ H1) := fun w vs μ ω hm hok => by
  have hS : S0 (fun id => ω (ρ id)) H0 = S0 ω (renH ρ H0) := by
    funext k
    apply propext
    constructor
    · rintro ⟨id, o, ho, hk⟩
      have hid := h0 id (keys_mem (assoc_mem ho))
      exact ⟨ρ id, o.ren ρ, by rw [assoc_ren hi h0 hid, ho]; rfl, hk⟩
    · rintro ⟨j, o, ho, hk⟩
      obtain ⟨id, hid, rfl⟩ := assoc_ren_some ho
      rw [assoc_ren hi h0 (h0 id hid)] at ho
      obtain ⟨o', ho', _⟩ := Option.map_eq_some_iff.1 ho
      exact ⟨id, o', ho', hk⟩
  have hm0 : Mem ⟨w, S0 (fun id => ω (ρ id)) H0, []⟩ (assoc H0) (fun id => μ (ρ id)) (fun id => ω (ρ id)) w := by
    have get : ∀ id o, assoc H0 id = some o → assoc (renH ρ H0) (ρ id) = some (o.ren ρ) := fun id o ho => by
      rw [assoc_ren hi h0 (h0 id (keys_mem (assoc_mem ho))), ho]; rfl
    refine ⟨Kp.refl _ _, fun id o ho => ?_, fun id o ho k hk => ?_, fun i j oi oj hoi hoj hij k hki hkj => ?_⟩
    · obtain ⟨v, hv, hh⟩ := hm.obj _ _ (get id o ho)
      exact ⟨v, hv, AObj.holds_iff.1 (AObj.holds_cx (fun W hW => by simp only [hS] at hW; exact hW) hh)⟩
    · have := hm.own _ _ (get id o ho) k hk
      exact ⟨by simp only [hS]; exact this.1, this.2⟩
    · exact hm.sep _ _ _ _ (get i oi hoi) (get j oj hoj) (fun e => hij (hi i j (h0 i (keys_mem (assoc_mem hoi))) (h0 j (keys_mem (assoc_mem hoj))) e)) k hki hkj
  refine (h w vs _ _ hm0 (by rw [hS]; exact gokA_ren hok)).mono (fun e w' hr' => ?_)
  obtain ⟨v, μ', ω', rfl, hc, hM, hk⟩ := hr'
  classical
  let inv : Nat → Nat := fun j => if h : ∃ id ∈ L, ρ id = j then h.choose else 0
  have hinv : ∀ id ∈ L, inv (ρ id) = id := fun id hid => by
    have hex : ∃ id' ∈ L, ρ id' = ρ id := ⟨id, hid, rfl⟩
    simp only [inv, dif_pos hex]
    exact hi _ _ hex.choose_spec.1 hid hex.choose_spec.2
  let μ2 : Mu := fun j => if ∃ id ∈ L, ρ id = j then μ' (inv j) else none
  let ω2 : Om := fun j => ω' (inv j)
  have e1 : ∀ id ∈ L, μ2 (ρ id) = μ' id ∧ ω2 (ρ id) = ω' id := fun id hid => by
    have hex : ∃ id' ∈ L, ρ id' = ρ id := ⟨id, hid, rfl⟩
    exact ⟨by simp only [μ2, if_pos hex, hinv id hid], by simp only [ω2, hinv id hid]⟩
  have hon : ∀ id u, memB L id = true → μ' id = some u → (fun id => μ2 (ρ id)) id = some u := fun id u hd hu => by
    rw [show (fun id => μ2 (ρ id)) id = μ' id from (e1 id (memB_iff.1 hd)).1]; exact hu
  have get1 : ∀ j o, assoc (renH ρ H1) j = some o → ∃ id o', id ∈ L ∧ j = ρ id ∧ assoc H1 id = some o' ∧ o = o'.ren ρ := fun j o ho => by
    obtain ⟨id, hid, rfl⟩ := assoc_ren_some ho
    rw [assoc_ren hi h1 (h1 id hid)] at ho
    obtain ⟨o', ho', e⟩ := Option.map_eq_some_iff.1 ho
    exact ⟨id, o', h1 id hid, rfl, ho', e.symm⟩
  refine ⟨v, μ2, ω2, rfl, AV.con_iff.2 (AV.con_on hon hr hc), ⟨by rw [← hS]; exact hM.kept, fun j o ho => ?_, fun j o ho k hkk => ?_, fun i j oi oj hoi hoj hij k hki hkj => ?_⟩, fun j hj => ?_⟩
  · obtain ⟨id, o', hid, rfl, ho', rfl⟩ := get1 j o ho
    obtain ⟨u, hu, hh⟩ := hM.obj id o' ho'
    refine ⟨u, by rw [(e1 id hid).1]; exact hu, ?_⟩
    rw [(e1 id hid).2]
    exact AObj.holds_iff.2 (AObj.holds_on hon (List.all_eq_true.1 hH _ (assoc_mem ho')) (AObj.holds_cx (fun W hW => by simp only [hS]; exact hW) hh))
  · obtain ⟨id, o', hid, rfl, ho', rfl⟩ := get1 j o ho
    rw [(e1 id hid).2] at hkk
    have := hM.own id o' ho' k hkk
    exact ⟨by rw [← hS]; exact this.1, this.2⟩
  · obtain ⟨i', o1, hi1, rfl, ho1, _⟩ := get1 i oi hoi
    obtain ⟨j', o2, hj1, rfl, ho2, _⟩ := get1 j oj hoj
    rw [(e1 i' hi1).2] at hki
    rw [(e1 j' hj1).2] at hkj
    exact hM.sep i' j' o1 o2 ho1 ho2 (fun e => hij (by rw [e])) k hki hkj
  · unfold keptB at hj
    cases ha : assoc (renH ρ H0) j with
    | none => rw [ha] at hj; cases hj
    | some o =>
      rw [ha] at hj
      obtain ⟨id, hid, rfl⟩ := assoc_ren_some ha
      have hidL := h0 id hid
      rw [assoc_ren hi h0 hidL] at ha
      obtain ⟨o', ho', rfl⟩ := Option.map_eq_some_iff.1 ha
      have hkb : keptB H0 H1 id = true := by
        unfold keptB
        rw [ho']
        simp only [isRo_ren, Bool.or_eq_true] at hj ⊢
        refine hj.imp id' (fun hm2 => ?_)
        have := memB_iff.1 hm2
        rw [keys_ren] at this
        obtain ⟨k', hk', e'⟩ := List.mem_map.1 this
        rw [← hi k' id (h1 k' hk') hidL e']
        exact memB_iff.2 hk'
      have := hk id hkb
      exact ⟨by rw [(e1 id hidL).1]; exact this.1, by rw [(e1 id hidL).2]; exact this.2⟩
where id' {p : Prop} (h : p) : p := h
end Go.Proofs.Ytplcjkgbjapbmaa.C
