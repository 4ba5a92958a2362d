import Derived.Test.YtengkenhmnpbeaaUp
import Derived.Test.YtengkenhmnpbeaaPMa
import Derived.Test.YtengkenhmnpbeaaPMb
import Derived.Test.YtengkenhmnpbeaaPSb
import Derived.Test.YtengkenhmnpbeaaPSa
namespace Go.Proofs.Ytengkenhmnpbeaa.C
open Go.RowKit Go.Proofs.YtengkenhmnpbeaaW Go.Proofs.YtengkenhmnpbeaaW.PrintWords Go.Proofs.Ytengkenhmnpbeaa.U
set_option maxHeartbeats 1000000
set_option maxRecDepth 100000
set_option linter.unusedVariables false
set_option linter.unusedSimpArgs false
/-- Exclusive or of two numbers that are not negative. -/
def xr (a b : Int) : Int := ((a.toNat ^^^ b.toNat : Nat) : Int)
theorem xr_range {a b : Int} (ha : 0 ≤ a ∧ a < 4294967296) (hb : 0 ≤ b ∧ b < 4294967296) : 0 ≤ xr a b ∧ xr a b < 4294967296 := by
  have := Nat.xor_lt_two_pow (x := a.toNat) (y := b.toNat) (n := 32) (by omega) (by omega)
  unfold xr
  omega
theorem xor_nat (k : IntKind) (hj : 32 ≤ k.bits) (hk : ∀ n : Int, 0 ≤ n → n < 4294967296 → k.wrap n = n) (a b : Nat) (ha : a < 2 ^ 32) (hb : b < 2 ^ 32) : Go.bits .xor k a b = ((a ^^^ b : Nat) : Int) := by
  have hp : 2 ^ 32 ≤ 2 ^ k.bits := Nat.pow_le_pow_right (by decide) hj
  have ha' : a % 2 ^ k.bits = a := Nat.mod_eq_of_lt (Nat.lt_of_lt_of_le ha hp)
  have hb' : b % 2 ^ k.bits = b := Nat.mod_eq_of_lt (Nat.lt_of_lt_of_le hb hp)
  simp only [Go.bits, BitVec.ofInt_natCast, BitVec.toNat_xor, BitVec.toNat_ofNat, ha', hb']
  have := Nat.xor_lt_two_pow ha hb
  exact hk _ (Int.natCast_nonneg _) (by omega)
theorem xor_u32 {a b : Int} (ha : 0 ≤ a ∧ a < 4294967296) (hb : 0 ≤ b ∧ b < 4294967296) : Go.bits .xor .u32 a b = xr a b := by
  have h := xor_nat .u32 (by decide) (fun n h0 h1 => by rw [IntKind.wrap_u32]; omega) a.toNat b.toNat (by omega) (by omega)
  rw [Int.toNat_of_nonneg ha.1, Int.toNat_of_nonneg hb.1] at h
  exact h
theorem xor_i64 {a b : Int} (ha : 0 ≤ a ∧ a < 4294967296) (hb : 0 ≤ b ∧ b < 4294967296) : Go.bits .xor .i64 a b = xr a b := by
  have h := xor_nat .i64 (by decide) (fun n h0 h1 => by rw [IntKind.wrap_i64]; omega) a.toNat b.toNat (by omega) (by omega)
  rw [Int.toNat_of_nonneg ha.1, Int.toNat_of_nonneg hb.1] at h
  exact h
theorem not_u32 {c : Int} (h : 0 ≤ c ∧ c < 4294967296) : Go.bits .xor .u32 4294967295 c = 4294967295 - c := by
  obtain ⟨n, rfl⟩ := Int.eq_ofNat_of_zero_le h.1
  have hn : n < 4294967296 := by omega
  have e : (BitVec.ofInt 32 4294967295 ^^^ BitVec.ofInt 32 (n : Int)) = ~~~ BitVec.ofNat 32 n := by
    rw [show BitVec.ofInt 32 4294967295 = BitVec.allOnes 32 from by decide, BitVec.ofInt_natCast, BitVec.allOnes_xor]
  show IntKind.u32.wrap ((BitVec.ofInt 32 4294967295 ^^^ BitVec.ofInt 32 (n : Int)).toNat : Int) = _
  rw [e, BitVec.toNat_not, BitVec.toNat_ofNat, Nat.mod_eq_of_lt (show n < 2 ^ 32 from hn), IntKind.wrap_u32]
  omega
theorem and_one {x : Int} (h : 0 ≤ x ∧ x < 4294967296) : Go.bits .and .u32 x 1 = x % 2 :=
  bits_mask .u32 32 (by decide) (fun n h0 h1 => by rw [IntKind.wrap_u32]; omega) 1 (by omega) x h.1 h.2
theorem and_255 (y : Int) : Go.bits .and .i64 y 255 % 256 = y % 256 := by
  have e : (BitVec.ofInt 64 y &&& BitVec.ofInt 64 255).toNat = (y % 18446744073709551616).toNat % 256 := by
    rw [BitVec.toNat_and, show (BitVec.ofInt 64 255).toNat = 2 ^ 8 - 1 from by decide, Nat.and_two_pow_sub_one_eq_mod, BitVec.toNat_ofInt]
    rfl
  show IntKind.i64.wrap ((BitVec.ofInt 64 y &&& BitVec.ofInt 64 255).toNat : Int) % 256 = _
  rw [e, IntKind.wrap_i64]
  omega
/-- One shift of the remainder. -/
def sh (x : Int) : Int := if x % 2 = 1 then xr (x / 2) 3988292384 else x / 2
theorem sh_range {x : Int} (h : 0 ≤ x ∧ x < 4294967296) : 0 ≤ sh x ∧ sh x < 4294967296 := by
  unfold sh
  split
  · exact xr_range (by omega) (by omega)
  · omega
def shN : Nat → Int → Int
  | 0, x => x
  | n + 1, x => shN n (sh x)
theorem shN_range : ∀ (n : Nat) {x : Int}, (0 ≤ x ∧ x < 4294967296) → 0 ≤ shN n x ∧ shN n x < 4294967296
  | 0, _, h => h
  | n + 1, _, h => shN_range n (sh_range h)
/-- The remainder of bytes. -/
def crcF : List Int → Int → Int
  | [], c => c
  | b :: r, c => crcF r (shN 8 (xr c b))
theorem crcF_range : ∀ (l : List Int) {c : Int}, (∀ b ∈ l, 0 ≤ b ∧ b ≤ 255) → (0 ≤ c ∧ c < 4294967296) → 0 ≤ crcF l c ∧ crcF l c < 4294967296
  | [], _, _, h => h
  | b :: r, _, hb, h => crcF_range r (fun x hx => hb x (List.mem_cons_of_mem _ hx)) (shN_range 8 (xr_range h (by have := hb b List.mem_cons_self; omega)))
/-- The check sum. -/
def crc (l : List Int) : Int := 4294967295 - crcF l 4294967295
theorem crcF_app : ∀ (l m : List Int) (c : Int), crcF (l ++ m) c = crcF m (crcF l c)
  | [], _, _ => rfl
  | b :: r, m, c => crcF_app r m _
theorem crcF_snoc {l : List Int} {k : Nat} {b c : Int} (h : l[k]? = some b) : crcF (l.take (k + 1)) c = shN 8 (xr (crcF (l.take k) c) b) := by
  have e : l.take (k + 1) = l.take k ++ [b] := by rw [List.take_add_one, h]; rfl
  rw [e, crcF_app]
  rfl
theorem shN_snoc : ∀ (n : Nat) (x : Int), shN (n + 1) x = sh (shN n x)
  | 0, _ => rfl
  | n + 1, x => shN_snoc n (sh x)
theorem crcT_range {l : List Int} (hb : ∀ b ∈ l, 0 ≤ b ∧ b ≤ 255) (k : Nat) : 0 ≤ crcF (l.take k) 4294967295 ∧ crcF (l.take k) 4294967295 < 4294967296 := crcF_range _ (fun b h => hb b (List.mem_of_mem_take h)) (by omega)
theorem crc_range {l : List Int} (hb : ∀ b ∈ l, 0 ≤ b ∧ b ≤ 255) : 0 ≤ crc l ∧ crc l < 4294967296 := by
  have := crcF_range l (c := 4294967295) hb (by omega)
  unfold crc
  omega
theorem run_shr {P : Program} {T yT : TypeId} {x y : Operand} {k yk : IntKind} {a b : Int} {n : Nat} {r : Int} (hb : b = (n : Int)) (hn : n ≤ k.bits) (hr : r = a / 2 ^ n) (w : World) : (do eqGuard .shr T x y (.int k a) (.int yk b); binOp .shr T (.int k a) (.int yk b) : Sem Value).run P w = .ok (.int k r) w := by
  subst hb hr
  have h0 : ¬ (n : Int) < 0 := by omega
  have h1 : min n k.bits = n := by omega
  have h2 : a.fdiv (2 ^ n) = a / 2 ^ n := Int.fdiv_eq_ediv_of_nonneg _ (Int.le_of_lt (Int.pow_pos (by omega)))
  simp [eqGuard, binOp, Op.shift, h0, h1, h2]
theorem run_shl {P : Program} {T yT : TypeId} {x y : Operand} {k yk : IntKind} {a b : Int} {n : Nat} {r : Int} (hb : b = (n : Int)) (hn : n ≤ k.bits) (hr : k.wrap (a * 2 ^ n) = r) (w : World) : (do eqGuard .shl T x y (.int k a) (.int yk b); binOp .shl T (.int k a) (.int yk b) : Sem Value).run P w = .ok (.int k r) w := by
  subst hb hr
  have h0 : ¬ (n : Int) < 0 := by omega
  have h1 : min n k.bits = n := by omega
  simp [eqGuard, binOp, Op.shift, h0, h1]
section
variable {P : Program} {X : Cx} {ops : Array Oper} {o : Oper} {l : List Oper} {σ : St} {K : List (Pre × Eff) → St → Prop} {lg : List (Nat × AV)}
theorem x_shr (hgo : GOn ops σ o lg) (hd : dstOk o.dst σ.n = true) {T yT : TypeId} {x y : Operand} {k yk : IntKind} {a b r : Int} (ho : o.op = .binOp .shr T x y yT) (hx : opnd σ.F x = some (.o (.c (.int k a)))) (hy : opnd σ.F y = some (.o (.c (.int yk b)))) (n : Nat) (hb : b = (n : Int)) (hn : n ≤ k.bits) (hr : r = a / 2 ^ n)
    (h : LX P X ops l (σ.app o.dst ⟨.o (.c (.int k r)), [], []⟩) (fun C => K ((⟨lg ++ (look x (.o (.c (.int k a))) ++ look y (.o (.c (.int yk b)))), []⟩, ⟨.o (.c (.int k r)), [], []⟩) :: C))) : LX P X ops (o :: l) σ K :=
  Lx.bin hgo hd ho hx hy (run_shr (yT := yT) hb hn hr) h
theorem x_shl (hgo : GOn ops σ o lg) (hd : dstOk o.dst σ.n = true) {T yT : TypeId} {x y : Operand} {k yk : IntKind} {a b r : Int} (ho : o.op = .binOp .shl T x y yT) (hx : opnd σ.F x = some (.o (.c (.int k a)))) (hy : opnd σ.F y = some (.o (.c (.int yk b)))) (n : Nat) (hb : b = (n : Int)) (hn : n ≤ k.bits) (hr : k.wrap (a * 2 ^ n) = r)
    (h : LX P X ops l (σ.app o.dst ⟨.o (.c (.int k r)), [], []⟩) (fun C => K ((⟨lg ++ (look x (.o (.c (.int k a))) ++ look y (.o (.c (.int yk b)))), []⟩, ⟨.o (.c (.int k r)), [], []⟩) :: C))) : LX P X ops (o :: l) σ K :=
  Lx.bin hgo hd ho hx hy (run_shl (yT := yT) hb hn hr) h
end
theorem wrap_u64_in {n : Int} (h0 : 0 ≤ n) (h1 : n < 18446744073709551616) : IntKind.u64.wrap n = n := by simp [IntKind.wrap, IntKind.bits, IntKind.signed]; omega
/-- A byte of a number, and its last bytes. -/
def byteN (x : Int) (j : Nat) : Int := x / 2 ^ (8 * j) % 256
def bytesN (x : Int) : Nat → List Int
  | 0 => []
  | j + 1 => byteN x j :: bytesN x j
def bytes4 (x : Int) : List Int := bytesN x 4
theorem bytes4_eq (x : Int) : bytes4 x = [byteN x 3, byteN x 2, byteN x 1, byteN x 0] := rfl
theorem bytes4_len (x : Int) : (bytes4 x).length = 4 := rfl
theorem bytes4_step {x : Int} {j : Nat} (h : j < 4) : (bytes4 x).take (4 - (j + 1)) ++ [byteN x j] = (bytes4 x).take (4 - j) := by
  match j, h with
  | 0, _ => rfl
  | 1, _ => rfl
  | 2, _ => rfl
  | 3, _ => rfl
theorem byteN_byte (x : Int) (j : Nat) : 0 ≤ byteN x j ∧ byteN x j ≤ 255 := by unfold byteN; omega
theorem bytes4_byte (x : Int) : ∀ b ∈ bytes4 x, 0 ≤ b ∧ b ≤ 255 := by
  intro b hb
  rw [bytes4_eq] at hb
  simp only [List.mem_cons, List.not_mem_nil, or_false] at hb
  rcases hb with rfl | rfl | rfl | rfl <;> exact byteN_byte _ _
theorem wrap_byte (x : Int) (j : Nat) : IntKind.u8.wrap (x / 2 ^ (8 * j)) = byteN x j := by rw [IntKind.wrap_u8]; rfl
theorem wrap_byte2 (x : Int) (j : Nat) : IntKind.u8.wrap (Go.bits .and .i64 (x / 2 ^ (8 * j)) 255) = byteN x j := by rw [IntKind.wrap_u8, and_255]; rfl
/-- Four bytes as a number. -/
def read4 (a b c d : Int) : Int := ((a * 256 + b) * 256 + c) * 256 + d
theorem bytes4_read4 {a b c d : Int} (ha : 0 ≤ a ∧ a ≤ 255) (hb : 0 ≤ b ∧ b ≤ 255) (hc : 0 ≤ c ∧ c ≤ 255) (hd : 0 ≤ d ∧ d ≤ 255) : bytes4 (read4 a b c d) = [a, b, c, d] := by
  rw [bytes4_eq]
  unfold byteN read4
  congr 1
  · omega
  · congr 1
    · omega
    · congr 1
      · omega
      · congr 1
        omega
theorem or_byte {x y : Int} (hx : 0 ≤ x ∧ x < 16777216) (hy : 0 ≤ y ∧ y ≤ 255) : Go.bits .or .i64 (x * 256) y = x * 256 + y :=
  bits_join .i64 32 (by decide) (fun n h0 h1 => by rw [IntKind.wrap_i64]; omega) 8 (x * 256) y (by omega) (by omega) (by omega) hy.1 (by omega) (by omega)
/-- The number of the first bytes of four. -/
def read4k (a b c d : Int) : Nat → Int
  | 0 => 0
  | 1 => a
  | 2 => a * 256 + b
  | 3 => (a * 256 + b) * 256 + c
  | _ => read4 a b c d
theorem bytes_of4 {a b c d : Int} (hb : ∀ x ∈ [a, b, c, d], 0 ≤ x ∧ x ≤ 255) : (0 ≤ a ∧ a ≤ 255) ∧ (0 ≤ b ∧ b ≤ 255) ∧ (0 ≤ c ∧ c ≤ 255) ∧ (0 ≤ d ∧ d ≤ 255) := ⟨hb a (by simp), hb b (by simp), hb c (by simp), hb d (by simp)⟩
theorem read4k_range {a b c d : Int} (hb : ∀ x ∈ [a, b, c, d], 0 ≤ x ∧ x ≤ 255) (k : Nat) : 0 ≤ read4k a b c d k ∧ read4k a b c d k < 4294967296 := by
  obtain ⟨h1, h2, h3, h4⟩ := bytes_of4 hb
  unfold read4k read4
  split <;> omega
theorem read4k_lt {a b c d : Int} (hb : ∀ x ∈ [a, b, c, d], 0 ≤ x ∧ x ≤ 255) {k : Nat} (hk : k < 4) : 0 ≤ read4k a b c d k ∧ read4k a b c d k < 16777216 := by
  obtain ⟨h1, h2, h3, h4⟩ := bytes_of4 hb
  match k, hk with
  | 0, _ => simp only [read4k]; omega
  | 1, _ => simp only [read4k]; omega
  | 2, _ => simp only [read4k]; omega
  | 3, _ => simp only [read4k]; omega
theorem read4k_step {a b c d x : Int} {k : Nat} (hx : ([a, b, c, d] : List Int)[k]? = some x) : read4k a b c d (k + 1) = read4k a b c d k * 256 + x := by
  match k, hx with
  | 0, hx => cases hx; simp [read4k]
  | 1, hx => cases hx; rfl
  | 2, hx => cases hx; rfl
  | 3, hx => cases hx; rfl
  | k + 4, hx => simp at hx
def six (a : Agg) : List Int := [a.win, a.key, a.count, a.sum + 1000000000, a.min + 1000000, a.max + 1000000]
def sixes (l : List Agg) : List Int := l.flatMap six
theorem sixes_snoc {l : List Agg} {k : Nat} {x : Agg} (h : l[k]? = some x) : sixes (l.take (k + 1)) = sixes (l.take k) ++ six x := by
  have e : l.take (k + 1) = l.take k ++ [x] := by rw [List.take_add_one, h]; rfl
  rw [sixes, e, List.flatMap_append]
  simp [sixes]
theorem sixes_len (l : List Agg) : (sixes l).length = 6 * l.length := by
  induction l with
  | nil => rfl
  | cons x r ih => simp only [sixes, List.flatMap_cons, List.length_append, List.length_cons] at ih ⊢; rw [ih]; simp [six]; omega
def heads (x : Save) : List Int := [x.at_, x.mark + 1, x.late, x.over, (x.aggs.length : Int)]
def nums (x : Save) : List Int := heads x ++ sixes x.aggs
theorem nums_len (x : Save) : (nums x).length = 5 + 6 * x.aggs.length := by rw [nums, List.length_append, sixes_len]; rfl
def fours (l : List Int) : List Int := l.flatMap bytes4
theorem fours_snoc {l : List Int} {k : Nat} {x : Int} (h : l[k]? = some x) : fours (l.take (k + 1)) = fours (l.take k) ++ bytes4 x := by
  have e : l.take (k + 1) = l.take k ++ [x] := by rw [List.take_add_one, h]; rfl
  rw [fours, e, List.flatMap_append]
  simp [fours]
theorem fours_len (l : List Int) : (fours l).length = 4 * l.length := by
  induction l with
  | nil => rfl
  | cons x r ih => simp only [fours, List.flatMap_cons, List.length_append, List.length_cons] at ih ⊢; rw [ih, bytes4_len]; omega
theorem fours_byte (l : List Int) : ∀ b ∈ fours l, 0 ≤ b ∧ b ≤ 255 := fun b h => by
  obtain ⟨x, _, hx⟩ := List.mem_flatMap.1 h
  exact bytes4_byte x b hx
def sealed (n : List Int) : List Int := fours n ++ bytes4 (crc (fours n))
theorem sealed_len (n : List Int) : (sealed n).length = 4 * n.length + 4 := by rw [sealed, List.length_append, fours_len, bytes4_len]
def putL (x : Save) : List Int := if okSave x then sealed (nums x) else []
theorem okAgg_bd {a : Agg} (h : okAgg a = true) : (0 ≤ a.win ∧ a.win ≤ 1000000) ∧ (0 ≤ a.key ∧ a.key ≤ 65535) ∧ (1 ≤ a.count ∧ a.count ≤ 1000000000) ∧ (-1000000000 ≤ a.sum ∧ a.sum ≤ 1000000000) ∧ (-1000000 ≤ a.min ∧ a.min ≤ 1000000) ∧ (-1000000 ≤ a.max ∧ a.max ≤ 1000000) := by
  unfold okAgg at h
  simp only [Bool.and_eq_true, inB_iff] at h
  exact ⟨h.1, h.2.1, h.2.2.1, h.2.2.2.1, h.2.2.2.2.1, h.2.2.2.2.2.1⟩
theorem okSave_bd {x : Save} (h : okSave x = true) : x.aggs.length ≤ 40 ∧ (0 ≤ x.at_ ∧ x.at_ ≤ 300) ∧ (-1 ≤ x.mark ∧ x.mark ≤ 1000000) ∧ (0 ≤ x.late ∧ x.late ≤ 1000000000) ∧ (0 ≤ x.over ∧ x.over ≤ 1000000000) ∧ ∀ a ∈ x.aggs, okAgg a = true := by
  unfold okSave okShard at h
  simp only [Bool.and_eq_true, inB_iff, decide_eq_true_iff, List.all_eq_true] at h
  exact ⟨h.2.1, h.1, h.2.2.1, h.2.2.2.1, h.2.2.2.2.1, h.2.2.2.2.2.1⟩
theorem putL_len (x : Save) : (putL x).length ≤ 984 := by
  unfold putL
  split
  · rename_i h
    have := (okSave_bd h).1
    rw [sealed_len, nums_len]
    omega
  · exact Nat.zero_le _
theorem putL_byte (x : Save) : ∀ b ∈ putL x, 0 ≤ b ∧ b ≤ 255 := by
  unfold putL
  split
  · intro b hb
    rw [sealed, List.mem_append] at hb
    rcases hb with hb | hb
    · exact fours_byte _ b hb
    · exact bytes4_byte _ b hb
  · intro b hb
    cases hb
def num (b : List Int) (j : Nat) : Int := read4 ((b[4 * j]?).getD 0) ((b[4 * j + 1]?).getD 0) ((b[4 * j + 2]?).getD 0) ((b[4 * j + 3]?).getD 0)
def AllB (b : List Int) : Prop := ∀ x ∈ b, 0 ≤ x ∧ x ≤ 255
theorem getD_byte {b : List Int} (hb : AllB b) (i : Nat) : 0 ≤ (b[i]?).getD 0 ∧ (b[i]?).getD 0 ≤ 255 := by
  cases h : b[i]? with
  | none => exact ⟨Int.le_refl _, by decide⟩
  | some x => exact hb x (List.mem_of_getElem? h)
theorem AllB.take {b : List Int} (hb : AllB b) (n : Nat) : AllB (b.take n) := fun x h => hb x (List.mem_of_mem_take h)
theorem AllB.drop {b : List Int} (hb : AllB b) (n : Nat) : AllB (b.drop n) := fun x h => hb x (List.mem_of_mem_drop h)
theorem slice4 {b : List Int} {j : Nat} (h : 4 * j + 4 ≤ b.length) : (b.drop (4 * j)).take 4 = [(b[4 * j]?).getD 0, (b[4 * j + 1]?).getD 0, (b[4 * j + 2]?).getD 0, (b[4 * j + 3]?).getD 0] := by
  rw [List.drop_eq_getElem_cons (by omega : 4 * j < b.length), List.drop_eq_getElem_cons (by omega : 4 * j + 1 < b.length), List.drop_eq_getElem_cons (by omega : 4 * j + 1 + 1 < b.length), List.drop_eq_getElem_cons (by omega : 4 * j + 1 + 1 + 1 < b.length)]
  rw [List.getElem?_eq_getElem (by omega : 4 * j < b.length), List.getElem?_eq_getElem (by omega : 4 * j + 1 < b.length), List.getElem?_eq_getElem (by omega : 4 * j + 2 < b.length), List.getElem?_eq_getElem (by omega : 4 * j + 3 < b.length)]
  rfl
theorem num_range {b : List Int} (hb : AllB b) (j : Nat) : 0 ≤ num b j ∧ num b j < 4294967296 := by
  have h1 := getD_byte hb (4 * j)
  have h2 := getD_byte hb (4 * j + 1)
  have h3 := getD_byte hb (4 * j + 2)
  have h4 := getD_byte hb (4 * j + 3)
  unfold num read4
  omega
theorem bytes4_num {b : List Int} (hb : AllB b) {j : Nat} (h : 4 * j + 4 ≤ b.length) : bytes4 (num b j) = (b.drop (4 * j)).take 4 := by
  rw [slice4 h, num, bytes4_read4 (getD_byte hb _) (getD_byte hb _) (getD_byte hb _) (getD_byte hb _)]
theorem fours_app (l m : List Int) : fours (l ++ m) = fours l ++ fours m := by rw [fours, List.flatMap_append]; rfl
theorem fours_nums {b : List Int} (hb : AllB b) : ∀ k, 4 * k ≤ b.length → fours ((List.range k).map (num b)) = b.take (4 * k)
  | 0, _ => by simp [fours]
  | k + 1, h => by
    rw [List.range_succ, List.map_append, fours_app, fours_nums hb k (by omega), show 4 * (k + 1) = 4 * k + 4 by omega, List.take_add, ← bytes4_num hb (by omega)]
    simp [fours]
def aggAt (b : List Int) (k : Nat) : Agg := ⟨num b k, num b (k + 1), num b (k + 2), num b (k + 3) - 1000000000, num b (k + 4) - 1000000, num b (k + 5) - 1000000⟩
def aggsAt (b : List Int) (m : Nat) : List Agg := (List.range m).map (fun i => aggAt b (5 + 6 * i))
theorem aggsAt_len (b : List Int) (m : Nat) : (aggsAt b m).length = m := by simp [aggsAt]
theorem aggsAt_snoc (b : List Int) (m : Nat) : aggsAt b (m + 1) = aggsAt b m ++ [aggAt b (5 + 6 * m)] := by simp [aggsAt, List.range_succ]
def dec (b : List Int) (m : Nat) : Save := ⟨num b 0, aggsAt b m, num b 1 - 1, num b 2, num b 3⟩
theorem six_at (b : List Int) (k : Nat) : six (aggAt b k) = [num b k, num b (k + 1), num b (k + 2), num b (k + 3), num b (k + 4), num b (k + 5)] := by
  simp only [six, aggAt, Int.sub_add_cancel]
theorem sixes_at (b : List Int) : ∀ m, sixes (aggsAt b m) = (List.range (6 * m)).map (fun j => num b (5 + j))
  | 0 => rfl
  | m + 1 => by
    have h := sixes_at b m
    rw [aggsAt_snoc]
    unfold sixes at h ⊢
    rw [List.flatMap_append, h, show 6 * (m + 1) = 6 * m + 1 + 1 + 1 + 1 + 1 + 1 by omega]
    simp only [List.range_succ, List.map_append, List.flatMap_cons, List.flatMap_nil, List.map_cons, List.map_nil, List.append_nil, six_at, List.append_assoc, List.cons_append, List.nil_append]
    rfl
theorem nums_dec {b : List Int} {m : Nat} (hm : num b 4 = (m : Int)) : nums (dec b m) = (List.range (5 + 6 * m)).map (num b) := by
  have e : nums (dec b m) = [num b 0, num b 1, num b 2, num b 3, num b 4] ++ (List.range (6 * m)).map (fun j => num b (5 + j)) := by
    rw [nums, show sixes (dec b m).aggs = _ from sixes_at b m]
    simp only [heads, dec, aggsAt_len, Int.sub_add_cancel, hm]
  rw [e, List.range_add, List.map_append, List.map_map]
  rfl
theorem bytes4_inj {x y : Int} (hx : 0 ≤ x ∧ x < 4294967296) (hy : 0 ≤ y ∧ y < 4294967296) (h : bytes4 x = bytes4 y) : x = y := by
  rw [bytes4_eq, bytes4_eq] at h
  simp only [List.cons.injEq, and_true, byteN] at h
  omega
theorem take_iff {b : List Int} {m : Nat} (hb : AllB b) (hl : 24 + 24 * m ≤ b.length) (hm : num b 4 = (m : Int)) : sealed (nums (dec b m)) = b.take (24 + 24 * m) ↔ num b (5 + 6 * m) = crc (b.take (20 + 24 * m)) := by
  have e1 : fours (nums (dec b m)) = b.take (20 + 24 * m) := by rw [nums_dec hm, fours_nums hb _ (by omega)]; congr 1; omega
  have e2 : b.take (24 + 24 * m) = b.take (20 + 24 * m) ++ bytes4 (num b (5 + 6 * m)) := by
    rw [bytes4_num hb (by omega), show 24 + 24 * m = (20 + 24 * m) + 4 by omega, List.take_add, show 4 * (5 + 6 * m) = 20 + 24 * m by omega]
  rw [sealed, e1, e2, List.append_cancel_left_eq]
  constructor
  · intro h
    exact (bytes4_inj (crc_range (hb.take _)) (num_range hb _) h).symm
  · intro h
    rw [h]
def mOf (b : List Int) : Nat := (num b 4).toNat
def takeB (b : List Int) : Bool := decide (24 ≤ b.length) && (decide (num b 4 ≤ 40) && (decide (24 + 24 * mOf b ≤ b.length) && (decide (num b (5 + 6 * mOf b) = crc (b.take (20 + 24 * mOf b))) && okSave (dec b (mOf b)))))
def takeS (b : List Int) : Save := if takeB b then dec b (mOf b) else zSave
def takeN (b : List Int) : Nat := if takeB b then 24 + 24 * mOf b else 0
theorem take_no {b : List Int} (h : takeB b = false) : takeS b = zSave ∧ takeN b = 0 := by rw [takeS, takeN, h]; exact ⟨rfl, rfl⟩
theorem take_yes {b : List Int} {m : Nat} (h : takeB b = true) (hm : num b 4 = (m : Int)) : takeS b = dec b m ∧ takeN b = 24 + 24 * m := by
  have e : mOf b = m := by rw [mOf, hm]; rfl
  rw [takeS, takeN, h, e]
  exact ⟨rfl, rfl⟩
theorem takeB_short {b : List Int} (h : ¬ 24 ≤ b.length) : takeB b = false := by rw [takeB, decide_eq_false h]; rfl
theorem takeB_many {b : List Int} (h : ¬ num b 4 ≤ 40) : takeB b = false := by rw [takeB, decide_eq_false h]; simp
theorem takeB_less {b : List Int} {m : Nat} (hm : num b 4 = (m : Int)) (h : ¬ 24 + 24 * m ≤ b.length) : takeB b = false := by
  have e : mOf b = m := by rw [mOf, hm]; rfl
  rw [takeB, e, decide_eq_false h]
  simp
theorem takeB_eq {b : List Int} {m : Nat} (hm : num b 4 = (m : Int)) (h1 : 24 + 24 * m ≤ b.length) (h2 : num b 4 ≤ 40) : takeB b = (decide (num b (5 + 6 * m) = crc (b.take (20 + 24 * m))) && okSave (dec b m)) := by
  have e : mOf b = m := by rw [mOf, hm]; rfl
  rw [takeB, e, decide_eq_true h1, decide_eq_true h2, decide_eq_true (show 24 ≤ b.length by omega)]
  rfl
theorem takeB_eq2 {b : List Int} {m : Nat} (hb : AllB b) (hm : num b 4 = (m : Int)) (h1 : 24 + 24 * m ≤ b.length) (h2 : num b 4 ≤ 40) : takeB b = (okSave (dec b m) && decide (putL (dec b m) = b.take (24 + 24 * m))) := by
  rw [takeB_eq hm h1 h2]
  cases h : okSave (dec b m)
  · simp
  · have e : putL (dec b m) = sealed (nums (dec b m)) := by rw [putL, h]; rfl
    rw [e, Bool.and_true, Bool.true_and, decide_eq_decide]
    exact (take_iff hb h1 hm).symm
theorem takeN_le (b : List Int) : takeN b ≤ b.length := by
  unfold takeN
  split
  · rename_i h
    unfold takeB at h
    simp only [Bool.and_eq_true, decide_eq_true_iff] at h
    exact h.2.2.1
  · exact Nat.zero_le _
theorem takeS_len (b : List Int) : (takeS b).aggs.length ≤ 40 := by
  unfold takeS
  split
  · rename_i h
    unfold takeB at h
    simp only [Bool.and_eq_true, decide_eq_true_iff] at h
    show (aggsAt b (mOf b)).length ≤ 40
    rw [aggsAt_len, mOf]
    omega
  · exact Nat.zero_le _
def takesF (b : List Int) : Nat → List Save → Nat → List Save × Nat
  | 0, out, at_ => (out, at_)
  | f + 1, out, at_ => if takeN (b.drop at_) = 0 then (out, at_) else takesF b f (out ++ [takeS (b.drop at_)]) (at_ + takeN (b.drop at_))
def takesL (b : List Int) : List Save × Nat := takesF b 20 [] 0
theorem takesF_stop {b : List Int} {f at_ : Nat} {out : List Save} (h : takeN (b.drop at_) = 0) : takesF b f out at_ = (out, at_) := by
  cases f with
  | zero => rfl
  | succ f => rw [takesF, if_pos h]
theorem takesF_go {b : List Int} {f at_ : Nat} {out : List Save} (h : ¬ takeN (b.drop at_) = 0) : takesF b (f + 1) out at_ = takesF b f (out ++ [takeS (b.drop at_)]) (at_ + takeN (b.drop at_)) := by rw [takesF, if_neg h]
theorem aggSum_app (xs ys : List Save) : aggSum (xs ++ ys) = aggSum xs + aggSum ys := by simp [aggSum]
theorem aggSum_one (x : Save) : aggSum [x] = x.aggs.length := by simp [aggSum]
theorem takesF_len (b : List Int) : ∀ (f : Nat) (out : List Save) (at_ : Nat), out.length + f ≤ 20 → aggSum out ≤ 40 * out.length → (takesF b f out at_).1.length ≤ 20 ∧ aggSum (takesF b f out at_).1 ≤ 800
  | 0, out, at_, h1, h2 => ⟨by show out.length ≤ 20; omega, by show aggSum out ≤ 800; omega⟩
  | f + 1, out, at_, h1, h2 => by
    rw [takesF]
    split
    · exact ⟨by show out.length ≤ 20; omega, by show aggSum out ≤ 800; omega⟩
    · have := takeS_len (b.drop at_)
      exact takesF_len b f _ _ (by rw [List.length_append]; show out.length + 1 + f ≤ 20; omega) (by rw [aggSum_app, aggSum_one, List.length_append]; show aggSum out + (takeS (b.drop at_)).aggs.length ≤ 40 * (out.length + 1); omega)
theorem takesL_len (b : List Int) : (takesL b).1.length ≤ 20 ∧ aggSum (takesL b).1 ≤ 800 := takesF_len b 20 [] 0 (Nat.le_refl _) (Nat.le_refl _)
end Go.Proofs.Ytengkenhmnpbeaa.C
