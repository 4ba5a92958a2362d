/- What is known of memory under one name: it holds now, and in every world to come that keeps all old blocks but those of a set. Small words for walks written by hand. Plain theorems. -/
import Derived.Test.YtplcjkgbjapbmaaWKept
import Derived.Test.YtplcjkgbjapbmaaWShare
import Derived.Handy
import Derived.OwnWalk
import Derived.Deep.Cut
import Derived.Deep.DeepCutAuto
import Derived.Deep.LoopGhost
import Derived.Deep.DeepMust
import Derived.Deep.QuietTactic
import Derived.BigQuiet
import Derived.Lib.Hide
import Derived.Deep.Light
import Derived.StillTailTactics
import Derived.KernelRfl
import Derived.Deep.RegionHeld3
import Derived.Deep.RegionLaw
import Derived.Deep.RegionWith
import Derived.WalkSpells
import Derived.WalkLawsBesides
import Derived.IntWalk
import Derived.Laws.NewBlocks
import Derived.Test.YtplcjkgbjapbmaaProg
namespace Go.Proofs.Ytplcjkgbjapbmaa.U
open Go.RowKit Go.Proofs.YtplcjkgbjapbmaaW.PrintWords
/-- φ holds in every world that keeps w's blocks, those of S apart. -/
structure Up (w : World) (S : Nat → Prop) (φ : World → Prop) : Prop where
  out : ∀ W, Kept w W S → φ W
def No : Nat → Prop := fun _ => False
section
variable {w w1 : World} {S S2 : Nat → Prop} {φ ψ : World → Prop}
theorem Up.now (h : Up w S φ) : φ w := h.out w (Kept.refl _ _)
theorem Up.below (h : Up w S φ) (hb : Below w.heap.size w w1) : Up w1 S φ := ⟨fun W hk => h.out W ((Kept.of_below hb S).then_ hk (fun _ h2 => .inl h2))⟩
theorem Up.kept (h : Up w S φ) (hk : Kept w w1 S2) (hs : ∀ k, S2 k → S k) : Up w1 S φ := ⟨fun W hk2 => h.out W ((hk.mono hs).then_ hk2 (fun _ h2 => .inl h2))⟩
theorem Up.alloc (h : Up w S φ) (o : Obj) : Up (w.alloc o) S φ := h.below (below_alloc (Below.refl _ _) _)
theorem Up.drew (h : Up w S φ) : Up w.drew S φ := ⟨fun W hk => h.out W hk⟩
theorem Up.drewN (h : Up w S φ) (n : Nat) : Up (w.drewN n) S φ := ⟨fun W hk => h.out W hk⟩
theorem Up.drawn (h : Up w S φ) (hd : Drawn0 w w1) : Up w1 S φ := by obtain ⟨n, rfl⟩ := hd.out; exact h.drewN n
theorem Up.and (h : Up w S φ) (k : Up w S ψ) : Up w S (fun W => φ W ∧ ψ W) := ⟨fun W hk => ⟨h.out W hk, k.out W hk⟩⟩
theorem Up.imp (h : Up w S φ) (k : ∀ W, w.heap.size ≤ W.heap.size → φ W → ψ W) : Up w S ψ := ⟨fun W hk => k W hk.1 (h.out W hk)⟩
theorem Up.mono (h : Up w S φ) (hs : ∀ k, S2 k → S k) : Up w S2 φ := ⟨fun W hk => h.out W (hk.mono hs)⟩
/-- Blocks that are new are no block of S, if S's are told by numbers below the heap's size. -/
theorem Up.grow (h : Up w S φ) (hs : ∀ k, S2 k → S k ∨ w.heap.size ≤ k) : Up w S2 φ := ⟨fun W hk => h.out W ⟨hk.1, fun i hi hn => hk.2 i hi (fun h2 => (hs i h2).elim hn (fun h3 => by omega))⟩⟩
theorem Up.ofR {α : Type} {d : Kd α} {e base : Nat} {ok : Nat → Prop} {v : Value} {xs : List α} (h : d.R e w base ok v xs) (hs : ∀ k, ok k → ¬ S k) : Up w S (fun W => d.R e W base ok v xs) := ⟨fun _ hk => Kd.R_kept h hk hs⟩
theorem Up.ofBlk {g : Nat} {o : Obj} (h : w.heap[g]? = some o) (hs : ¬ S g) : Up w S (fun W => W.heap[g]? = some o) := ⟨fun _ hk => blk_kept h hk hs⟩
theorem Up.ofC {α : Type} {d : Kd α} {A : Option Addr} {n : Nat} {xs : List α} (h : ∀ W, Kept w W S → d.C W A n xs) : Up w S (fun W => d.C W A n xs) := ⟨h⟩


/-- A row that came in, where nothing old is written. -/
theorem Up.ofC0 {α : Type} {d : Kd α} (hd : Kd.Heap d) {A : Option Addr} {n : Nat} {xs : List α} (h : d.C w A n xs) (hs : ∀ k, S k → w.heap.size ≤ k) : Up w S (fun W => d.C W A n xs) :=
  ⟨fun _ hk => hd.C (fun k hlt => hk.2 k hlt (fun h2 => by have := hs k h2; omega)) h⟩
theorem ret_bool {a b : Bool} (h : a = b) : Ending.returned (.bool a) = .returned (.bool b) := by rw [h]
theorem ret_int {k : IntKind} {a b : Int} (h : a = b) : Ending.returned (.int k a) = .returned (.int k b) := by rw [h]
theorem bcell {W w1 : World} (hb : Below W.heap.size W w1) : (∀ b o, b < W.heap.size → w1.cell? ⟨b, o, none⟩ = W.cell? ⟨b, o, none⟩) ∧ (∀ b o, b < W.heap.size → w1.frozen? ⟨b, o, none⟩ = W.frozen? ⟨b, o, none⟩) :=
  ⟨fun b o h => hb.cell (p := ⟨b, o, none⟩) h, fun b o h => hb.frozen (p := ⟨b, o, none⟩) h⟩
theorem Up.next (h : Up w S φ) (hk : Kept w w1 S) (hs : ∀ k, S2 k → S k ∨ w.heap.size ≤ k) : Up w1 S2 φ := ⟨fun W hk2 => h.out W (hk.then_ hk2 hs)⟩
theorem Up.size (w : World) (S : Nat → Prop) : Up w S (fun W => w.heap.size ≤ W.heap.size) := ⟨fun _ hk => hk.1⟩
end
end Go.Proofs.Ytplcjkgbjapbmaa.U
