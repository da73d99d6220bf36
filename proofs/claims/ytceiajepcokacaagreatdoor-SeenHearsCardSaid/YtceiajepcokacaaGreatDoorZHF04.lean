/-
  WHAT IS PROVED: contracts and plain laws. Condition: each names its own.
-/
import Derived.Test.YtceiajepcokacaaGreatDoorS0
import Derived.Test.YtceiajepcokacaaGreatDoorZHF03
import Derived.ChangeKeysEq
import Derived.KernelRfl
import Derived.Laws.StructEq
import Derived.StillTactics
import Derived.Tactics
import Derived.Tactics2
import Derived.Test.YtceiajepcokacaaGreatDoorChecked
set_option linter.unusedVariables false
set_option linter.unusedSimpArgs false
set_option maxRecDepth 100000
set_option maxHeartbeats 4000000
namespace Go.Proofs.YtceiajepcokacaaGreatDoor.EqHash
open Go Go.RowKit ShaB
def M9 (l : List UInt8) : List UInt8 := l ++ List.replicate (32 - l.length) 0
def hEq (a b : List UInt8) : Bool := (List.range 32).all fun i => (M9 a).getD i 0 == (M9 b).getD i 0
theorem P5 (a : List UInt8) : hEq a a = true := by simp [hEq]
theorem hEq_iff {a b : List UInt8} (ha : a.length = 32) (hb : b.length = 32) : hEq a b = true ↔ a = b := by
 constructor
 ·intro h
  have e1 : M9 a = a := by simp [M9, ha]
  have e2 : M9 b = b := by simp [M9, hb]
  unfold hEq at h
  rw [e1, e2, List.all_eq_true] at h
  refine List.ext_getElem (by omega) fun i h1 h2 => ?_
  have := h i (by simp; omega)
  simpa [List.getD_eq_getElem?_getD, h1, h2] using this
 ·rintro rfl
  exact P5 a
theorem Xg {a b : List UInt8} (ha : a.length = 32) (hb : b.length = 32) (h : a ≠ b) : hEq a b = false := by
 cases hc : hEq a b
 ·rfl
 ·exact (h ((hEq_iff ha hb).1 hc)).elim
theorem WC (l : List UInt8) {i : Nat} (hi : i < 32) : (pB 32 l)[i]? = some (.int .u8 (((M9 l).getD i 0).toNat : Int)) := by
 have hl : i < (M9 l).length := by simp [M9]; omega
 have : (M9 l)[i]? = some ((M9 l).getD i 0) := by simp [List.getD_eq_getElem?_getD, hl]
 unfold pB byV
 rw [List.getElem?_toArray, List.getElem?_map]
 unfold M9 at this ⊢
 rw [this]
 rfl
theorem items (w : World) (d : Nat) (a b : List UInt8) : ∀ (is : List Nat), (∀ i ∈ is, i < 32) → (Op.eqItems (d + 1) 5 1 (pB 32 a) (pB 32 b) is).run Tryz.prog w = .ok (is.all fun i => (M9 a).getD i 0 == (M9 b).getD i 0) w
 | [], _ => by simp [Op.eqItems]
 | i :: is, h => by
   have hi := h i (by simp)
   have hp : Tryz.prog.plainKey 5 = true := by kernel_rfl
   have hu : Tryz.prog.underlying 5 = some (.int .u8) := by kernel_rfl
   have h1 := run_part_plain w hp (off := i * 1) (by rw [Nat.mul_one]; exact WC a hi)
   have h2 := run_part_plain w hp (off := i * 1) (by rw [Nat.mul_one]; exact WC b hi)
   have h3 := run_equalIn_int (P := Tryz.prog) w d 5 .u8 .u8 (((M9 a).getD i 0).toNat : Int) (((M9 b).getD i 0).toNat : Int) hu
   have hb : ((((M9 a).getD i 0).toNat : Int) == (((M9 b).getD i 0).toNat : Int)) = ((M9 a).getD i 0 == (M9 b).getD i 0) := by
     rw [Bool.eq_iff_iff]
     simp only [beq_iff_eq]
     exact ⟨fun h => UInt8.toNat_inj.1 (by omega), fun h => by rw [h]⟩
   rw [hb] at h3
   simp only [Op.eqItems, Sem.run_bind, h1, h2, h3, Result.andThen_ok, List.all_cons]
   cases hc : ((M9 a).getD i 0 == (M9 b).getD i 0)
   ·simp
   ·simpa using items w d a b is (fun j hj => h j (by simp [hj]))
theorem UJ (a b : List UInt8) (w : World) : (Op.equalIn 10000 44 (.agg (pB 32 a)) (.agg (pB 32 b))).run Tryz.prog w = .ok (hEq a b) w := by
 have hu : Tryz.prog.underlying 44 = some (.array 32 5) := by kernel_rfl
 have hc : Tryz.prog.cellsOf 5 = 1 := by kernel_rfl
 have hi : ∃ i, Tryz.prog.info? 5 = some i := info_of_underlying (show Tryz.prog.underlying 5 = some (.int .u8) by kernel_rfl)
 obtain ⟨i, hi⟩ := hi
 rw [show (10000 : Nat) = 9999 + 1 from rfl, run_equalIn_array w 9999 _ _ hu hi, hc]
 exact items w 9998 a b (List.range 32) (fun i hi => by simpa using hi)
theorem D8 : Go.Program.eqGuardType Tryz.prog Tryz.prog.depth 44 = false := by kernel_rfl
theorem Bg {P : Program} {o : Oper} {a : Act} {w : World} (ty : TypeId) (x : Operand) (ho : o.op = .load ty x)
 (g : Nat) (hx : a.eval x = .pointer (some ⟨g, 0, none⟩)) {t : TypeId} {cs : Array Value} {fr : Nat × Nat} {d : TypeDesc} (hg : w.heap[g]? = some (.cells cs t fr))
 (hu : P.underlying ty = some d) (hd : (match d with | .struct _ | .array _ _ => true | _ => false) = true) (hi : (P.info? ty).map (·.size) = some cs.size) : (execOp a.eval o).run P w = .ok (.value (.agg cs)) w := by
 unfold execOp
 simp only [ho, hx, Instr.loadAt, Instr.sureAddr, Sem.run_bind, Sem.run_pure, Result.andThen_ok, run_loadVar_row w g t ty cs fr d hg hu hd hi]
end Go.Proofs.YtceiajepcokacaaGreatDoor.EqHash
