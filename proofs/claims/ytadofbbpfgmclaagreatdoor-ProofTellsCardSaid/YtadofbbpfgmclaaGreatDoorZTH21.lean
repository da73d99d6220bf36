/-
  WHAT IS PROVED: contracts of functions, and plain laws. Condition: what each theorem names.
-/
import Derived.Test.YtadofbbpfgmclaaGreatDoorS0
import Derived.Test.YtadofbbpfgmclaaGreatDoorZTBH06
import Derived.ChangeKeysEq
import Derived.Deep.MidRow
import Derived.KernelRfl
import Derived.Laws.CopyOwn
import Derived.Laws.CopyRow
import Derived.Laws.EntriesVeiled
import Derived.Laws.StructEq
import Derived.Lib.RabinKarpLaws
import Derived.Lib.SlBytesConst
import Derived.LoopN
import Derived.StillTactics
import Derived.StillTailTactics
import Derived.Tactics
import Derived.Tactics2
import Derived.Test.YtadofbbpfgmclaaGreatDoorChecked
set_option linter.unusedVariables false
set_option linter.unusedSimpArgs false
set_option maxRecDepth 100000
set_option maxHeartbeats 4000000
namespace Go.Proofs.YtadofbbpfgmclaaGreatDoor
namespace EventS
open OctetS IdentS
theorem BV {e : Ev} : A9 e = true ↔ Right e := by
 unfold A9
 simp only [Bool.and_eq_true, decide_eq_true_eq]
 exact ⟨fun ⟨a, b, c, d, e, f, g⟩ => ⟨a, b, c, d, e, f, g⟩, fun h => ⟨h.room, h.sender, h.kind, h.key, h.body, h.nonce0, h.nonce1⟩⟩
theorem Right.fits {e : Ev} (h : Right e) : fits (parts e) = true := by
 rw [Ca]
 refine ⟨by simp [parts], fun t ht => ?_⟩
 have h1 := Du h.room
 have h2 := Fp h.sender
 have h3 := word_length e.kind
 have h4 := h.key_length
 have h5 := h.body
 have h6 := h.Dq
 simp only [parts, List.mem_cons, List.not_mem_nil, or_false] at ht
 rcases ht with rfl | rfl | rfl | rfl | rfl | rfl <;> omega
end EventS
namespace LivesE
open Go Go.RowKit OctetS IdentS EventS OctP OctA IdentP EventP EventC EventB
attribute [-go_sem] run_equalIn_agg
def ev0 : Ev := ⟨[33, 104, 97, 108, 108, 58, 48], [64, 97, 110, 110, 58, 48], 6, [], [104, 105], 7⟩
def s0 : List UInt8 := [6, 7, 33, 104, 97, 108, 108, 58, 48, 6, 64, 97, 110, 110, 58, 48, 7, 109, 101, 115, 115, 97, 103, 101, 0, 2, 104, 105, 1, 7]
theorem right0 : Right ev0 := BV.1 (by decide +kernel)
theorem bytes0 : EventS.bytes ev0 = s0 := by decide +kernel
theorem t2 (w : World) : Calls Tryz.prog 34 #[.string (bsOf s0)] w (BN w (parts ev0, 0)) := by
 have h := CJ w (bsOf s0) (by decide)
 rw [AU, ← bytes0, EventS.bytes, Ie right0.fits] at h
 exact h
end LivesE
namespace RkW
open Go Go.RowKit Go.Shelf OctP OctG RowsX Lift ShaS KeyS Steps
attribute [-go_sem] Builtin.append_
def strN (s : ByteArray) : List Value := [.string s]
theorem strNF : GI 1 strN := ⟨fun _ => rfl, fun x u hu => by simp [strN] at hu; rw [hu]; rfl⟩
end RkW
end Go.Proofs.YtadofbbpfgmclaaGreatDoor
