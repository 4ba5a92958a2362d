import Derived.Test.YtjdncnajedglgaaDoorUp
import Derived.Test.YtjdncnajedglgaaDoorUText
import Derived.Test.YtjdncnajedglgaaDoorUHeavy
namespace Go.Proofs.YtjdncnajedglgaaDoor.C
open Go.RowKit Go.Proofs.YtjdncnajedglgaaDoorW Go.Proofs.YtjdncnajedglgaaDoorW.PrintWords Go.Proofs.YtjdncnajedglgaaDoor.U
set_option maxHeartbeats 1000000
set_option maxRecDepth 100000
set_option linter.unusedVariables false
set_option linter.unusedSimpArgs false
def slotT (s : Slot) : ByteArray := ⟨#[32]⟩ ++ strL (numT s.key) ++ ⟨#[120]⟩ ++ strL (numT s.count)
def heavyTo (total cut : Int) (l : List Slot) : ByteArray := l.foldl (fun o s => o ++ slotT s) (strL (numT total) ++ ⟨#[45]⟩ ++ strL (numT cut))
def heavyT (room : Int) (l : List Slot) (total cut : Int) : ByteArray := if okHeavy room l total cut then heavyTo total cut l else ⟨#[]⟩
theorem heavyTo_succ {total cut : Int} {l : List Slot} {k : Nat} {x : Slot} (h : l[k]? = some x) : heavyTo total cut (l.take (k + 1)) = heavyTo total cut (l.take k) ++ slotT x := by
  have e : l.take (k + 1) = l.take k ++ [x] := by rw [List.take_add_one, h]; rfl
  rw [heavyTo, e, List.foldl_append]
  rfl
theorem slotT_size {s : Slot} (h : (0 ≤ s.key ∧ s.key ≤ 65535) ∧ 1 ≤ s.count ∧ s.count ≤ 1000000000) : (slotT s).size ≤ 44 := by
  have h1 := numT_len (n := s.key) (by omega)
  have h2 := numT_len (n := s.count) (by omega)
  unfold slotT
  simp only [ByteArray.size_append, strL_size]
  have e1 : (⟨#[32]⟩ : ByteArray).size = 1 := rfl
  have e2 : (⟨#[120]⟩ : ByteArray).size = 1 := rfl
  omega
theorem heavyTo_size {total cut : Int} (ht : -9223372036854775808 ≤ total ∧ total ≤ 9223372036854775807) (hc : -9223372036854775808 ≤ cut ∧ cut ≤ 9223372036854775807) {l : List Slot} (hl : ∀ s ∈ l, (0 ≤ s.key ∧ s.key ≤ 65535) ∧ 1 ≤ s.count ∧ s.count ≤ 1000000000) : (heavyTo total cut l).size ≤ 43 + 44 * l.length := by
  have h1 := numT_len ht
  have h2 := numT_len hc
  have key : ∀ (l : List Slot) (o : ByteArray), (∀ s ∈ l, (0 ≤ s.key ∧ s.key ≤ 65535) ∧ 1 ≤ s.count ∧ s.count ≤ 1000000000) → (l.foldl (fun o s => o ++ slotT s) o).size ≤ o.size + 44 * l.length := by
    intro l
    induction l with
    | nil => intro o _; simp
    | cons s l ih =>
      intro o h
      have h3 := ih (o ++ slotT s) (fun x hx => h x (List.mem_cons_of_mem _ hx))
      have h4 := slotT_size (h s List.mem_cons_self)
      rw [ByteArray.size_append] at h3
      rw [List.foldl_cons, List.length_cons]
      omega
  have h5 := key l (strL (numT total) ++ ⟨#[45]⟩ ++ strL (numT cut)) hl
  simp only [ByteArray.size_append, strL_size] at h5
  have e1 : (⟨#[45]⟩ : ByteArray).size = 1 := rfl
  unfold heavyTo
  omega
theorem bapp (a b c : ByteArray) : a ++ b ++ c = a ++ (b ++ c) := by
  refine ByteArray.ext ?_
  simp [ByteArray.data_append]
theorem slot_left (o : ByteArray) (s : Slot) : o ++ ⟨#[32]⟩ ++ strL (numT s.key) ++ ⟨#[120]⟩ ++ strL (numT s.count) = o ++ slotT s := by
  unfold slotT
  rw [bapp o, bapp o, bapp o]
end Go.Proofs.YtjdncnajedglgaaDoor.C
