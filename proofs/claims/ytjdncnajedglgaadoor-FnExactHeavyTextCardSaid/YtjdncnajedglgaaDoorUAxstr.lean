import Derived.Test.YtjdncnajedglgaaDoorUp
import Derived.Laws.BytesArg
import Derived.Test.YtjdncnajedglgaaDoorPMc
import Derived.Test.YtjdncnajedglgaaDoorPMb
namespace Go.Proofs.YtjdncnajedglgaaDoor.C
open Go.RowKit Go.Proofs.YtjdncnajedglgaaDoorW Go.Proofs.YtjdncnajedglgaaDoorW.PrintWords Go.Proofs.YtjdncnajedglgaaDoor.U
set_option maxHeartbeats 1000000
set_option maxRecDepth 100000
set_option linter.unusedVariables false
set_option linter.unusedSimpArgs false
/-! Strings. -/
def numsStr (xs : List Int) : ByteArray := strOfNums xs
section
variable {P : Program} {X : Cx} {ops : Array Oper} {o : Oper} {l : List Oper} {σ : St} {K : List (Pre × Eff) → St → Prop} {lg : List (Nat × AV)}
/-- string(b) of a row of bytes. -/
theorem x_convBS (hgo : GOn ops σ o lg) (hd : dstOk o.dst σ.n = true) {src dst e id : Nat} {x : Operand} {b : AObj} {xs : List Int} (ho : o.op = .convert src dst x) (hs : P.underlying src = some (.slice e)) (he : P.underlying e = some (.int .u8)) (hds : P.underlying dst = some .string) (hx : opnd σ.F x = some (.o (.i id))) (hH : σ.H id = some b) (hr : Rdb (Kd.int .u8) xs b) (hne : 0 < xs.length)
    (h : LX P X ops l (σ.app o.dst ⟨.o (.c (.string (strOfNums xs))), [], []⟩) (fun C => K ((⟨lg ++ look x (.o (.i id)), [(id, b)]⟩, ⟨.o (.c (.string (strOfNums xs))), [], []⟩) :: C))) : LX P X ops (o :: l) σ K :=
  Lx.val (h := h) hgo.1 hgo.2 hd (look_fits hx) (one_mem hH) (fun σ1 h1 h2 μ ω a w hs1 => by
    obtain ⟨A, c, hm, hlc, hC, hev⟩ := hr.at_ hs1 (h2 _ List.mem_cons_self) (opnd_of hx h1)
    obtain ⟨y0, hy0⟩ := elt (l := xs) (k := 0) hne
    have hf : Flat (Kd.int .u8) (fun x => [Value.int .u8 x]) := flat_scalar
    obtain ⟨ad, rfl, _⟩ := row_cells hC hf hy0
    have hl : (loadCells ad xs.length).run P w = .ok (xs.map (Value.int .u8)).toArray w := by
      have := run_loadCells_list (P := P) w ad (xs.map (Value.int .u8)) (fun j v hj => by
        have hjl : j < xs.length := by simpa using (List.getElem?_eq_some_iff.1 hj).1
        obtain ⟨y, hy⟩ := elt (l := xs) (k := j) hjl
        obtain ⟨ad2, e2, hcell⟩ := row_cells hC hf hy
        cases e2
        rw [List.getElem?_map, hy] at hj
        cases hj
        have := hcell 0 _ rfl
        rwa [show j * (Kd.int .u8).sz + 0 = j from Nat.mul_one j] at this)
      simpa using this
    refine ⟨.string (strOfNums xs), ?_, rfl⟩
    unfold execOp
    simp only [ho, hev]
    have h3 := run_convert_bytes_string (P := P) w src dst e (some ad) xs.length c hs he hds
    rw [run_bytesToString w ad xs.length c xs hl, foldl_push_bytes] at h3
    simp [h3, strOfNums, ByteArray.empty, ByteArray.emptyWithCapacity]
    rfl)
/-- a + b of strings. -/
theorem x_cat (hgo : GOn ops σ o lg) (hd : dstOk o.dst σ.n = true) {T yT : TypeId} {x y : Operand} {s t : ByteArray} (ho : o.op = .binOp .add T x y yT) (hx : opnd σ.F x = some (.o (.c (.string s)))) (hy : opnd σ.F y = some (.o (.c (.string t)))) (hl : s.size + t.size ≤ 1000000000)
    (h : LX P X ops l (σ.app o.dst ⟨.o (.c (.string (s ++ t))), [], []⟩) (fun C => K ((⟨lg ++ (look x (.o (.c (.string s))) ++ look y (.o (.c (.string t)))), []⟩, ⟨.o (.c (.string (s ++ t))), [], []⟩) :: C))) : LX P X ops (o :: l) σ K :=
  Lx.bin hgo hd ho hx hy (fun w => by
    simp [eqGuard, binOp, Op.stringOp]
    omega) h
end
end Go.Proofs.YtjdncnajedglgaaDoor.C
