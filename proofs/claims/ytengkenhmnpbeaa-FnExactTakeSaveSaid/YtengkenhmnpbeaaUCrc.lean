import Derived.Test.YtengkenhmnpbeaaUp
import Derived.Test.YtengkenhmnpbeaaPMa
import Derived.Test.YtengkenhmnpbeaaPMb
namespace Go.Proofs.Ytengkenhmnpbeaa.C
open Go.RowKit Go.Proofs.YtengkenhmnpbeaaW Go.Proofs.YtengkenhmnpbeaaW.PrintWords Go.Proofs.Ytengkenhmnpbeaa.U
set_option maxHeartbeats 1000000
set_option maxRecDepth 100000
set_option linter.unusedVariables false
set_option linter.unusedSimpArgs false
/-- Exclusive or of two numbers that are not negative. -/
def xr (a b : Int) : Int := ((a.toNat ^^^ b.toNat : Nat) : Int)
theorem xr_range {a b : Int} (ha : 0 ≤ a ∧ a < 4294967296) (hb : 0 ≤ b ∧ b < 4294967296) : 0 ≤ xr a b ∧ xr a b < 4294967296 := by
  have := Nat.xor_lt_two_pow (x := a.toNat) (y := b.toNat) (n := 32) (by omega) (by omega)
  unfold xr
  omega
theorem xor_nat (k : IntKind) (hj : 32 ≤ k.bits) (hk : ∀ n : Int, 0 ≤ n → n < 4294967296 → k.wrap n = n) (a b : Nat) (ha : a < 2 ^ 32) (hb : b < 2 ^ 32) : Go.bits .xor k a b = ((a ^^^ b : Nat) : Int) := by
  have hp : 2 ^ 32 ≤ 2 ^ k.bits := Nat.pow_le_pow_right (by decide) hj
  have ha' : a % 2 ^ k.bits = a := Nat.mod_eq_of_lt (Nat.lt_of_lt_of_le ha hp)
  have hb' : b % 2 ^ k.bits = b := Nat.mod_eq_of_lt (Nat.lt_of_lt_of_le hb hp)
  simp only [Go.bits, BitVec.ofInt_natCast, BitVec.toNat_xor, BitVec.toNat_ofNat, ha', hb']
  have := Nat.xor_lt_two_pow ha hb
  exact hk _ (Int.natCast_nonneg _) (by omega)
theorem xor_u32 {a b : Int} (ha : 0 ≤ a ∧ a < 4294967296) (hb : 0 ≤ b ∧ b < 4294967296) : Go.bits .xor .u32 a b = xr a b := by
  have h := xor_nat .u32 (by decide) (fun n h0 h1 => by rw [IntKind.wrap_u32]; omega) a.toNat b.toNat (by omega) (by omega)
  rw [Int.toNat_of_nonneg ha.1, Int.toNat_of_nonneg hb.1] at h
  exact h
theorem xor_i64 {a b : Int} (ha : 0 ≤ a ∧ a < 4294967296) (hb : 0 ≤ b ∧ b < 4294967296) : Go.bits .xor .i64 a b = xr a b := by
  have h := xor_nat .i64 (by decide) (fun n h0 h1 => by rw [IntKind.wrap_i64]; omega) a.toNat b.toNat (by omega) (by omega)
  rw [Int.toNat_of_nonneg ha.1, Int.toNat_of_nonneg hb.1] at h
  exact h
theorem not_u32 {c : Int} (h : 0 ≤ c ∧ c < 4294967296) : Go.bits .xor .u32 4294967295 c = 4294967295 - c := by
  obtain ⟨n, rfl⟩ := Int.eq_ofNat_of_zero_le h.1
  have hn : n < 4294967296 := by omega
  have e : (BitVec.ofInt 32 4294967295 ^^^ BitVec.ofInt 32 (n : Int)) = ~~~ BitVec.ofNat 32 n := by
    rw [show BitVec.ofInt 32 4294967295 = BitVec.allOnes 32 from by decide, BitVec.ofInt_natCast, BitVec.allOnes_xor]
  show IntKind.u32.wrap ((BitVec.ofInt 32 4294967295 ^^^ BitVec.ofInt 32 (n : Int)).toNat : Int) = _
  rw [e, BitVec.toNat_not, BitVec.toNat_ofNat, Nat.mod_eq_of_lt (show n < 2 ^ 32 from hn), IntKind.wrap_u32]
  omega
theorem and_one {x : Int} (h : 0 ≤ x ∧ x < 4294967296) : Go.bits .and .u32 x 1 = x % 2 :=
  bits_mask .u32 32 (by decide) (fun n h0 h1 => by rw [IntKind.wrap_u32]; omega) 1 (by omega) x h.1 h.2
theorem and_255 (y : Int) : Go.bits .and .i64 y 255 % 256 = y % 256 := by
  have e : (BitVec.ofInt 64 y &&& BitVec.ofInt 64 255).toNat = (y % 18446744073709551616).toNat % 256 := by
    rw [BitVec.toNat_and, show (BitVec.ofInt 64 255).toNat = 2 ^ 8 - 1 from by decide, Nat.and_two_pow_sub_one_eq_mod, BitVec.toNat_ofInt]
    rfl
  show IntKind.i64.wrap ((BitVec.ofInt 64 y &&& BitVec.ofInt 64 255).toNat : Int) % 256 = _
  rw [e, IntKind.wrap_i64]
  omega
/-- One shift of the remainder. -/
def sh (x : Int) : Int := if x % 2 = 1 then xr (x / 2) 3988292384 else x / 2
theorem sh_range {x : Int} (h : 0 ≤ x ∧ x < 4294967296) : 0 ≤ sh x ∧ sh x < 4294967296 := by
  unfold sh
  split
  · exact xr_range (by omega) (by omega)
  · omega
def shN : Nat → Int → Int
  | 0, x => x
  | n + 1, x => shN n (sh x)
theorem shN_range : ∀ (n : Nat) {x : Int}, (0 ≤ x ∧ x < 4294967296) → 0 ≤ shN n x ∧ shN n x < 4294967296
  | 0, _, h => h
  | n + 1, _, h => shN_range n (sh_range h)
/-- The remainder of bytes. -/
def crcF : List Int → Int → Int
  | [], c => c
  | b :: r, c => crcF r (shN 8 (xr c b))
theorem crcF_range : ∀ (l : List Int) {c : Int}, (∀ b ∈ l, 0 ≤ b ∧ b ≤ 255) → (0 ≤ c ∧ c < 4294967296) → 0 ≤ crcF l c ∧ crcF l c < 4294967296
  | [], _, _, h => h
  | b :: r, _, hb, h => crcF_range r (fun x hx => hb x (List.mem_cons_of_mem _ hx)) (shN_range 8 (xr_range h (by have := hb b List.mem_cons_self; omega)))
/-- The check sum. -/
def crc (l : List Int) : Int := 4294967295 - crcF l 4294967295
theorem crcF_app : ∀ (l m : List Int) (c : Int), crcF (l ++ m) c = crcF m (crcF l c)
  | [], _, _ => rfl
  | b :: r, m, c => crcF_app r m _
theorem crcF_snoc {l : List Int} {k : Nat} {b c : Int} (h : l[k]? = some b) : crcF (l.take (k + 1)) c = shN 8 (xr (crcF (l.take k) c) b) := by
  have e : l.take (k + 1) = l.take k ++ [b] := by rw [List.take_add_one, h]; rfl
  rw [e, crcF_app]
  rfl
theorem shN_snoc : ∀ (n : Nat) (x : Int), shN (n + 1) x = sh (shN n x)
  | 0, _ => rfl
  | n + 1, x => shN_snoc n (sh x)
theorem crcT_range {l : List Int} (hb : ∀ b ∈ l, 0 ≤ b ∧ b ≤ 255) (k : Nat) : 0 ≤ crcF (l.take k) 4294967295 ∧ crcF (l.take k) 4294967295 < 4294967296 := crcF_range _ (fun b h => hb b (List.mem_of_mem_take h)) (by omega)
theorem crc_range {l : List Int} (hb : ∀ b ∈ l, 0 ≤ b ∧ b ≤ 255) : 0 ≤ crc l ∧ crc l < 4294967296 := by
  have := crcF_range l (c := 4294967295) hb (by omega)
  unfold crc
  omega
theorem run_shr {P : Program} {T yT : TypeId} {x y : Operand} {k yk : IntKind} {a b : Int} {n : Nat} {r : Int} (hb : b = (n : Int)) (hn : n ≤ k.bits) (hr : r = a / 2 ^ n) (w : World) : (do eqGuard .shr T x y (.int k a) (.int yk b); binOp .shr T (.int k a) (.int yk b) : Sem Value).run P w = .ok (.int k r) w := by
  subst hb hr
  have h0 : ¬ (n : Int) < 0 := by omega
  have h1 : min n k.bits = n := by omega
  have h2 : a.fdiv (2 ^ n) = a / 2 ^ n := Int.fdiv_eq_ediv_of_nonneg _ (Int.le_of_lt (Int.pow_pos (by omega)))
  simp [eqGuard, binOp, Op.shift, h0, h1, h2]
theorem run_shl {P : Program} {T yT : TypeId} {x y : Operand} {k yk : IntKind} {a b : Int} {n : Nat} {r : Int} (hb : b = (n : Int)) (hn : n ≤ k.bits) (hr : k.wrap (a * 2 ^ n) = r) (w : World) : (do eqGuard .shl T x y (.int k a) (.int yk b); binOp .shl T (.int k a) (.int yk b) : Sem Value).run P w = .ok (.int k r) w := by
  subst hb hr
  have h0 : ¬ (n : Int) < 0 := by omega
  have h1 : min n k.bits = n := by omega
  simp [eqGuard, binOp, Op.shift, h0, h1]
section
variable {P : Program} {X : Cx} {ops : Array Oper} {o : Oper} {l : List Oper} {σ : St} {K : List (Pre × Eff) → St → Prop} {lg : List (Nat × AV)}
theorem x_shr (hgo : GOn ops σ o lg) (hd : dstOk o.dst σ.n = true) {T yT : TypeId} {x y : Operand} {k yk : IntKind} {a b r : Int} (ho : o.op = .binOp .shr T x y yT) (hx : opnd σ.F x = some (.o (.c (.int k a)))) (hy : opnd σ.F y = some (.o (.c (.int yk b)))) (n : Nat) (hb : b = (n : Int)) (hn : n ≤ k.bits) (hr : r = a / 2 ^ n)
    (h : LX P X ops l (σ.app o.dst ⟨.o (.c (.int k r)), [], []⟩) (fun C => K ((⟨lg ++ (look x (.o (.c (.int k a))) ++ look y (.o (.c (.int yk b)))), []⟩, ⟨.o (.c (.int k r)), [], []⟩) :: C))) : LX P X ops (o :: l) σ K :=
  Lx.bin hgo hd ho hx hy (run_shr (yT := yT) hb hn hr) h
theorem x_shl (hgo : GOn ops σ o lg) (hd : dstOk o.dst σ.n = true) {T yT : TypeId} {x y : Operand} {k yk : IntKind} {a b r : Int} (ho : o.op = .binOp .shl T x y yT) (hx : opnd σ.F x = some (.o (.c (.int k a)))) (hy : opnd σ.F y = some (.o (.c (.int yk b)))) (n : Nat) (hb : b = (n : Int)) (hn : n ≤ k.bits) (hr : k.wrap (a * 2 ^ n) = r)
    (h : LX P X ops l (σ.app o.dst ⟨.o (.c (.int k r)), [], []⟩) (fun C => K ((⟨lg ++ (look x (.o (.c (.int k a))) ++ look y (.o (.c (.int yk b)))), []⟩, ⟨.o (.c (.int k r)), [], []⟩) :: C))) : LX P X ops (o :: l) σ K :=
  Lx.bin hgo hd ho hx hy (run_shl (yT := yT) hb hn hr) h
end
theorem wrap_u64_in {n : Int} (h0 : 0 ≤ n) (h1 : n < 18446744073709551616) : IntKind.u64.wrap n = n := by simp [IntKind.wrap, IntKind.bits, IntKind.signed]; omega
/-- A byte of a number, and its last bytes. -/
def byteN (x : Int) (j : Nat) : Int := x / 2 ^ (8 * j) % 256
def bytesN (x : Int) : Nat → List Int
  | 0 => []
  | j + 1 => byteN x j :: bytesN x j
def bytes4 (x : Int) : List Int := bytesN x 4
theorem bytes4_eq (x : Int) : bytes4 x = [byteN x 3, byteN x 2, byteN x 1, byteN x 0] := rfl
theorem bytes4_len (x : Int) : (bytes4 x).length = 4 := rfl
theorem bytes4_step {x : Int} {j : Nat} (h : j < 4) : (bytes4 x).take (4 - (j + 1)) ++ [byteN x j] = (bytes4 x).take (4 - j) := by
  match j, h with
  | 0, _ => rfl
  | 1, _ => rfl
  | 2, _ => rfl
  | 3, _ => rfl
theorem byteN_byte (x : Int) (j : Nat) : 0 ≤ byteN x j ∧ byteN x j ≤ 255 := by unfold byteN; omega
theorem bytes4_byte (x : Int) : ∀ b ∈ bytes4 x, 0 ≤ b ∧ b ≤ 255 := by
  intro b hb
  rw [bytes4_eq] at hb
  simp only [List.mem_cons, List.not_mem_nil, or_false] at hb
  rcases hb with rfl | rfl | rfl | rfl <;> exact byteN_byte _ _
theorem wrap_byte (x : Int) (j : Nat) : IntKind.u8.wrap (x / 2 ^ (8 * j)) = byteN x j := by rw [IntKind.wrap_u8]; rfl
theorem wrap_byte2 (x : Int) (j : Nat) : IntKind.u8.wrap (Go.bits .and .i64 (x / 2 ^ (8 * j)) 255) = byteN x j := by rw [IntKind.wrap_u8, and_255]; rfl
/-- Four bytes as a number. -/
def read4 (a b c d : Int) : Int := ((a * 256 + b) * 256 + c) * 256 + d
theorem bytes4_read4 {a b c d : Int} (ha : 0 ≤ a ∧ a ≤ 255) (hb : 0 ≤ b ∧ b ≤ 255) (hc : 0 ≤ c ∧ c ≤ 255) (hd : 0 ≤ d ∧ d ≤ 255) : bytes4 (read4 a b c d) = [a, b, c, d] := by
  rw [bytes4_eq]
  unfold byteN read4
  congr 1
  · omega
  · congr 1
    · omega
    · congr 1
      · omega
      · congr 1
        omega
theorem or_byte {x y : Int} (hx : 0 ≤ x ∧ x < 16777216) (hy : 0 ≤ y ∧ y ≤ 255) : Go.bits .or .i64 (x * 256) y = x * 256 + y :=
  bits_join .i64 32 (by decide) (fun n h0 h1 => by rw [IntKind.wrap_i64]; omega) 8 (x * 256) y (by omega) (by omega) (by omega) hy.1 (by omega) (by omega)
/-- The number of the first bytes of four. -/
def read4k (a b c d : Int) : Nat → Int
  | 0 => 0
  | 1 => a
  | 2 => a * 256 + b
  | 3 => (a * 256 + b) * 256 + c
  | _ => read4 a b c d
theorem bytes_of4 {a b c d : Int} (hb : ∀ x ∈ [a, b, c, d], 0 ≤ x ∧ x ≤ 255) : (0 ≤ a ∧ a ≤ 255) ∧ (0 ≤ b ∧ b ≤ 255) ∧ (0 ≤ c ∧ c ≤ 255) ∧ (0 ≤ d ∧ d ≤ 255) := ⟨hb a (by simp), hb b (by simp), hb c (by simp), hb d (by simp)⟩
theorem read4k_range {a b c d : Int} (hb : ∀ x ∈ [a, b, c, d], 0 ≤ x ∧ x ≤ 255) (k : Nat) : 0 ≤ read4k a b c d k ∧ read4k a b c d k < 4294967296 := by
  obtain ⟨h1, h2, h3, h4⟩ := bytes_of4 hb
  unfold read4k read4
  split <;> omega
theorem read4k_lt {a b c d : Int} (hb : ∀ x ∈ [a, b, c, d], 0 ≤ x ∧ x ≤ 255) {k : Nat} (hk : k < 4) : 0 ≤ read4k a b c d k ∧ read4k a b c d k < 16777216 := by
  obtain ⟨h1, h2, h3, h4⟩ := bytes_of4 hb
  match k, hk with
  | 0, _ => simp only [read4k]; omega
  | 1, _ => simp only [read4k]; omega
  | 2, _ => simp only [read4k]; omega
  | 3, _ => simp only [read4k]; omega
theorem read4k_step {a b c d x : Int} {k : Nat} (hx : ([a, b, c, d] : List Int)[k]? = some x) : read4k a b c d (k + 1) = read4k a b c d k * 256 + x := by
  match k, hx with
  | 0, hx => cases hx; simp [read4k]
  | 1, hx => cases hx; rfl
  | 2, hx => cases hx; rfl
  | 3, hx => cases hx; rfl
  | k + 4, hx => simp at hx
end Go.Proofs.Ytengkenhmnpbeaa.C
