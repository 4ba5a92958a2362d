import Derived.Test.YthacciliemgilaaUp
import Derived.Test.YthacciliemgilaaUHeavyf
namespace Go.Proofs.Ythacciliemgilaa.C
open Go.RowKit Go.Proofs.YthacciliemgilaaW Go.Proofs.YthacciliemgilaaW.PrintWords Go.Proofs.Ythacciliemgilaa.U
set_option maxHeartbeats 1000000
set_option maxRecDepth 100000
set_option linter.unusedVariables false
set_option linter.unusedSimpArgs false
def mgL (la lb : List Slot) : List Slot := lb.foldl (fun acc s => putS acc s.key s.count) la
theorem mgL_snoc {la lb : List Slot} {k : Nat} {s : Slot} (h : lb[k]? = some s) : mgL la (lb.take (k + 1)) = putS (mgL la (lb.take k)) s.key s.count := by
  rw [← take_snoc h, mgL, List.foldl_append]
  rfl
theorem mgL_srt {la : List Slot} (h : Srt la) : ∀ lb : List Slot, Srt (mgL la lb) := fun lb => by
  induction lb generalizing la with
  | nil => exact h
  | cons s lb ih => exact ih (putS_srt h _ _)
theorem mgL_len (la : List Slot) : ∀ lb : List Slot, (mgL la lb).length ≤ la.length + lb.length := fun lb => by
  induction lb generalizing la with
  | nil => exact Nat.le_refl _
  | cons s lb ih =>
    have h1 := ih (putS la s.key s.count)
    have h2 := putS_len la s.key s.count
    simp only [List.length_cons]
    unfold mgL at h1 ⊢
    rw [List.foldl_cons]
    omega
theorem mgL_cnt {lb : List Slot} (hb : ∀ s ∈ lb, 1 ≤ s.count ∧ s.count ≤ 1000000000) : ∀ {la : List Slot} {M : Int}, (∀ s ∈ la, 1 ≤ s.count ∧ s.count ≤ M) → 1000000000 ≤ M → ∀ s ∈ mgL la lb, 1 ≤ s.count ∧ s.count ≤ M + 1000000000 * lb.length := by
  induction lb with
  | nil => intro la M h hM s hs; have := h s hs; simp; exact this
  | cons t lb ih =>
    intro la M h hM s hs
    have ht := hb t (by simp)
    have := ih (fun s hs => hb s (by simp [hs])) (la := putS la t.key t.count) (M := M + 1000000000) (fun u hu => by
      rcases putS_mem hu with hu | rfl | ⟨v, hv, rfl⟩
      · have := h u hu; omega
      · show 1 ≤ t.count ∧ t.count ≤ _; omega
      · have := h v hv
        show 1 ≤ v.count + t.count ∧ v.count + t.count ≤ _
        omega) (by omega) s hs
    simp only [List.length_cons]
    omega
def mgTo (a b : HV) : HV := ⟨a.room, lessS (mgL a.l b.l) (cutX (mgL a.l b.l) a.room), a.t + b.t, a.c + b.c + cutX (mgL a.l b.l) a.room⟩
def mgOk (a b : HV) : Bool := okHeavy a.room a.l a.t a.c && (okHeavy b.room b.l b.t b.c && (a.room == b.room))
def mgOk2 (a b : HV) : Bool := mgOk a b && okHeavy (mgTo a b).room (mgTo a b).l (mgTo a b).t (mgTo a b).c
def hvMerge (a b : HV) : HV := if mgOk2 a b = true then mgTo a b else hvZero
end Go.Proofs.Ythacciliemgilaa.C
