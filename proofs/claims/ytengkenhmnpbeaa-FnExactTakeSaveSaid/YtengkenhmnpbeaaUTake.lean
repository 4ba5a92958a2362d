import Derived.Test.YtengkenhmnpbeaaUp
import Derived.Test.YtengkenhmnpbeaaUPutsave
namespace Go.Proofs.Ytengkenhmnpbeaa.C
open Go.RowKit Go.Proofs.YtengkenhmnpbeaaW Go.Proofs.YtengkenhmnpbeaaW.PrintWords Go.Proofs.Ytengkenhmnpbeaa.U
set_option maxHeartbeats 1000000
set_option maxRecDepth 100000
set_option linter.unusedVariables false
set_option linter.unusedSimpArgs false
def num (b : List Int) (j : Nat) : Int := read4 ((b[4 * j]?).getD 0) ((b[4 * j + 1]?).getD 0) ((b[4 * j + 2]?).getD 0) ((b[4 * j + 3]?).getD 0)
def AllB (b : List Int) : Prop := ∀ x ∈ b, 0 ≤ x ∧ x ≤ 255
theorem getD_byte {b : List Int} (hb : AllB b) (i : Nat) : 0 ≤ (b[i]?).getD 0 ∧ (b[i]?).getD 0 ≤ 255 := by
  cases h : b[i]? with
  | none => exact ⟨Int.le_refl _, by decide⟩
  | some x => exact hb x (List.mem_of_getElem? h)
theorem AllB.take {b : List Int} (hb : AllB b) (n : Nat) : AllB (b.take n) := fun x h => hb x (List.mem_of_mem_take h)
theorem AllB.drop {b : List Int} (hb : AllB b) (n : Nat) : AllB (b.drop n) := fun x h => hb x (List.mem_of_mem_drop h)
theorem slice4 {b : List Int} {j : Nat} (h : 4 * j + 4 ≤ b.length) : (b.drop (4 * j)).take 4 = [(b[4 * j]?).getD 0, (b[4 * j + 1]?).getD 0, (b[4 * j + 2]?).getD 0, (b[4 * j + 3]?).getD 0] := by
  rw [List.drop_eq_getElem_cons (by omega : 4 * j < b.length), List.drop_eq_getElem_cons (by omega : 4 * j + 1 < b.length), List.drop_eq_getElem_cons (by omega : 4 * j + 1 + 1 < b.length), List.drop_eq_getElem_cons (by omega : 4 * j + 1 + 1 + 1 < b.length)]
  rw [List.getElem?_eq_getElem (by omega : 4 * j < b.length), List.getElem?_eq_getElem (by omega : 4 * j + 1 < b.length), List.getElem?_eq_getElem (by omega : 4 * j + 2 < b.length), List.getElem?_eq_getElem (by omega : 4 * j + 3 < b.length)]
  rfl
theorem num_range {b : List Int} (hb : AllB b) (j : Nat) : 0 ≤ num b j ∧ num b j < 4294967296 := by
  have h1 := getD_byte hb (4 * j)
  have h2 := getD_byte hb (4 * j + 1)
  have h3 := getD_byte hb (4 * j + 2)
  have h4 := getD_byte hb (4 * j + 3)
  unfold num read4
  omega
theorem bytes4_num {b : List Int} (hb : AllB b) {j : Nat} (h : 4 * j + 4 ≤ b.length) : bytes4 (num b j) = (b.drop (4 * j)).take 4 := by
  rw [slice4 h, num, bytes4_read4 (getD_byte hb _) (getD_byte hb _) (getD_byte hb _) (getD_byte hb _)]
theorem fours_app (l m : List Int) : fours (l ++ m) = fours l ++ fours m := by rw [fours, List.flatMap_append]; rfl
theorem fours_nums {b : List Int} (hb : AllB b) : ∀ k, 4 * k ≤ b.length → fours ((List.range k).map (num b)) = b.take (4 * k)
  | 0, _ => by simp [fours]
  | k + 1, h => by
    rw [List.range_succ, List.map_append, fours_app, fours_nums hb k (by omega), show 4 * (k + 1) = 4 * k + 4 by omega, List.take_add, ← bytes4_num hb (by omega)]
    simp [fours]
def aggAt (b : List Int) (k : Nat) : Agg := ⟨num b k, num b (k + 1), num b (k + 2), num b (k + 3) - 1000000000, num b (k + 4) - 1000000, num b (k + 5) - 1000000⟩
def aggsAt (b : List Int) (m : Nat) : List Agg := (List.range m).map (fun i => aggAt b (5 + 6 * i))
theorem aggsAt_len (b : List Int) (m : Nat) : (aggsAt b m).length = m := by simp [aggsAt]
theorem aggsAt_snoc (b : List Int) (m : Nat) : aggsAt b (m + 1) = aggsAt b m ++ [aggAt b (5 + 6 * m)] := by simp [aggsAt, List.range_succ]
def dec (b : List Int) (m : Nat) : Save := ⟨num b 0, aggsAt b m, num b 1 - 1, num b 2, num b 3⟩
theorem six_at (b : List Int) (k : Nat) : six (aggAt b k) = [num b k, num b (k + 1), num b (k + 2), num b (k + 3), num b (k + 4), num b (k + 5)] := by
  simp only [six, aggAt, Int.sub_add_cancel]
theorem sixes_at (b : List Int) : ∀ m, sixes (aggsAt b m) = (List.range (6 * m)).map (fun j => num b (5 + j))
  | 0 => rfl
  | m + 1 => by
    have h := sixes_at b m
    rw [aggsAt_snoc]
    unfold sixes at h ⊢
    rw [List.flatMap_append, h, show 6 * (m + 1) = 6 * m + 1 + 1 + 1 + 1 + 1 + 1 by omega]
    simp only [List.range_succ, List.map_append, List.flatMap_cons, List.flatMap_nil, List.map_cons, List.map_nil, List.append_nil, six_at, List.append_assoc, List.cons_append, List.nil_append]
    rfl
theorem nums_dec {b : List Int} {m : Nat} (hm : num b 4 = (m : Int)) : nums (dec b m) = (List.range (5 + 6 * m)).map (num b) := by
  have e : nums (dec b m) = [num b 0, num b 1, num b 2, num b 3, num b 4] ++ (List.range (6 * m)).map (fun j => num b (5 + j)) := by
    rw [nums, show sixes (dec b m).aggs = _ from sixes_at b m]
    simp only [heads, dec, aggsAt_len, Int.sub_add_cancel, hm]
  rw [e, List.range_add, List.map_append, List.map_map]
  rfl
theorem bytes4_inj {x y : Int} (hx : 0 ≤ x ∧ x < 4294967296) (hy : 0 ≤ y ∧ y < 4294967296) (h : bytes4 x = bytes4 y) : x = y := by
  rw [bytes4_eq, bytes4_eq] at h
  simp only [List.cons.injEq, and_true, byteN] at h
  omega
theorem take_iff {b : List Int} {m : Nat} (hb : AllB b) (hl : 24 + 24 * m ≤ b.length) (hm : num b 4 = (m : Int)) : sealed (nums (dec b m)) = b.take (24 + 24 * m) ↔ num b (5 + 6 * m) = crc (b.take (20 + 24 * m)) := by
  have e1 : fours (nums (dec b m)) = b.take (20 + 24 * m) := by rw [nums_dec hm, fours_nums hb _ (by omega)]; congr 1; omega
  have e2 : b.take (24 + 24 * m) = b.take (20 + 24 * m) ++ bytes4 (num b (5 + 6 * m)) := by
    rw [bytes4_num hb (by omega), show 24 + 24 * m = (20 + 24 * m) + 4 by omega, List.take_add, show 4 * (5 + 6 * m) = 20 + 24 * m by omega]
  rw [sealed, e1, e2, List.append_cancel_left_eq]
  constructor
  · intro h
    exact (bytes4_inj (crc_range (hb.take _)) (num_range hb _) h).symm
  · intro h
    rw [h]
def mOf (b : List Int) : Nat := (num b 4).toNat
def takeB (b : List Int) : Bool := decide (24 ≤ b.length) && (decide (num b 4 ≤ 40) && (decide (24 + 24 * mOf b ≤ b.length) && (decide (num b (5 + 6 * mOf b) = crc (b.take (20 + 24 * mOf b))) && okSave (dec b (mOf b)))))
def takeS (b : List Int) : Save := if takeB b then dec b (mOf b) else zSave
def takeN (b : List Int) : Nat := if takeB b then 24 + 24 * mOf b else 0
theorem take_no {b : List Int} (h : takeB b = false) : takeS b = zSave ∧ takeN b = 0 := by rw [takeS, takeN, h]; exact ⟨rfl, rfl⟩
theorem take_yes {b : List Int} {m : Nat} (h : takeB b = true) (hm : num b 4 = (m : Int)) : takeS b = dec b m ∧ takeN b = 24 + 24 * m := by
  have e : mOf b = m := by rw [mOf, hm]; rfl
  rw [takeS, takeN, h, e]
  exact ⟨rfl, rfl⟩
theorem takeB_short {b : List Int} (h : ¬ 24 ≤ b.length) : takeB b = false := by rw [takeB, decide_eq_false h]; rfl
theorem takeB_many {b : List Int} (h : ¬ num b 4 ≤ 40) : takeB b = false := by rw [takeB, decide_eq_false h]; simp
theorem takeB_less {b : List Int} {m : Nat} (hm : num b 4 = (m : Int)) (h : ¬ 24 + 24 * m ≤ b.length) : takeB b = false := by
  have e : mOf b = m := by rw [mOf, hm]; rfl
  rw [takeB, e, decide_eq_false h]
  simp
theorem takeB_eq {b : List Int} {m : Nat} (hm : num b 4 = (m : Int)) (h1 : 24 + 24 * m ≤ b.length) (h2 : num b 4 ≤ 40) : takeB b = (decide (num b (5 + 6 * m) = crc (b.take (20 + 24 * m))) && okSave (dec b m)) := by
  have e : mOf b = m := by rw [mOf, hm]; rfl
  rw [takeB, e, decide_eq_true h1, decide_eq_true h2, decide_eq_true (show 24 ≤ b.length by omega)]
  rfl
theorem takeB_eq2 {b : List Int} {m : Nat} (hb : AllB b) (hm : num b 4 = (m : Int)) (h1 : 24 + 24 * m ≤ b.length) (h2 : num b 4 ≤ 40) : takeB b = (okSave (dec b m) && decide (putL (dec b m) = b.take (24 + 24 * m))) := by
  rw [takeB_eq hm h1 h2]
  cases h : okSave (dec b m)
  · simp
  · have e : putL (dec b m) = sealed (nums (dec b m)) := by rw [putL, h]; rfl
    rw [e, Bool.and_true, Bool.true_and, decide_eq_decide]
    exact (take_iff hb h1 hm).symm
theorem takeN_le (b : List Int) : takeN b ≤ b.length := by
  unfold takeN
  split
  · rename_i h
    unfold takeB at h
    simp only [Bool.and_eq_true, decide_eq_true_iff] at h
    exact h.2.2.1
  · exact Nat.zero_le _
theorem takeS_len (b : List Int) : (takeS b).aggs.length ≤ 40 := by
  unfold takeS
  split
  · rename_i h
    unfold takeB at h
    simp only [Bool.and_eq_true, decide_eq_true_iff] at h
    show (aggsAt b (mOf b)).length ≤ 40
    rw [aggsAt_len, mOf]
    omega
  · exact Nat.zero_le _
end Go.Proofs.Ytengkenhmnpbeaa.C
