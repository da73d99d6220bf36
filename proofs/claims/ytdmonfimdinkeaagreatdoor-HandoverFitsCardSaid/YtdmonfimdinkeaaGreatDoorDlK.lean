/-
  WHAT IS PROVED: plain facts of one deal, as it is signed at the first place of the key of seed "s" and height one. Condition: what each theorem names.
-/
import Derived.Test.YtdmonfimdinkeaaGreatDoorDlS
import Derived.Test.YtdmonfimdinkeaaGreatDoorEntU
namespace Go.Proofs.YtdmonfimdinkeaaGreatDoor.DlK
open Go.Proofs.YtdmonfimdinkeaaGreatDoor.OctetS Go.Proofs.YtdmonfimdinkeaaGreatDoor.IdentS Go.Proofs.YtdmonfimdinkeaaGreatDoor.EntS Go.Proofs.YtdmonfimdinkeaaGreatDoor.KeyS Go.Proofs.YtdmonfimdinkeaaGreatDoor.KeyN Go.Proofs.YtdmonfimdinkeaaGreatDoor.NSha Go.Proofs.YtdmonfimdinkeaaGreatDoor.EntK Go.Proofs.YtdmonfimdinkeaaGreatDoor.WireS Go.Proofs.YtdmonfimdinkeaaGreatDoor.WireT
set_option linter.unusedVariables false
set_option maxRecDepth 100000

def dl (k : Int) (s : List UInt8) : Dl := ⟨k, rm, 1, 5, 2, 1, s⟩
def TD1 : List UInt8 := OctetS.list (DlS.parts (dl 1 []))
def G : List UInt8 := sigOf [115] 1 0 TD1
theorem G_len : G.length = 1121 := by
  unfold G
  rw [sigOf_length (by decide)]
theorem G_head : (G.headD 0).toNat = 0 := by
  unfold G
  exact sigOf_head (by decide) (by decide) _ _
theorem G_le : G.length ≤ 8192 := by
  rw [G_len]
  omega
theorem right {k : Int} (hk : k = 1 ∨ k = 2) {s : List UInt8} (hs : s.length ≤ 8192) : DlS.Right (dl k s) := ⟨hk, room0, hs, (by decide : (0 : Int) ≤ 1), (by decide : (1 : Int) ≤ 4096), (by decide : (0 : Int) ≤ 5), (by decide : (5 : Int) ≤ 4096), (by decide : (0 : Int) ≤ 2), (by decide : (2 : Int) ≤ 63), (by decide : (0 : Int) ≤ 1), (by decide : (1 : Int) ≤ 63), (by decide : (2 : Int) ≠ 1)⟩
theorem text1 (s : List UInt8) : DlS.text (dl 1 s) = TD1 := rfl
theorem TD1_len : TD1.length ≤ 8192 := by decide +kernel
theorem check1 {k : Int} (hk : k = 1 ∨ k = 2) {s : List UInt8} (hs : s.length ≤ 8192) : checkD (dl k s) = true := DlS.check_iff.2 (right hk hs)
theorem bytes1 : DlS.bytesE (dl 1 G) = OctetS.list [TD1, G] := by
  unfold DlS.bytesE
  rw [text1]
  rfl
theorem fits1 : fits [TD1, G] = true := by
  have h := DlS.bytes_fits (right (k := 1) (.inl rfl) (s := G) G_le) (by rw [text1]; exact TD1_len)
  rw [text1] at h
  exact h
theorem parse1 : parseD (OctetS.list [TD1, G]) = some (dl 1 G) := by
  have h := DlS.parse_bytes (right (k := 1) (.inl rfl) (s := G) G_le) (by rw [text1]; exact TD1_len)
  rw [bytes1] at h
  exact h
theorem parse_more {l : List (List UInt8)} (h : fits l = true) (x : UInt8) : WireS.parseD (OctetS.list l ++ [x]) = none := by
  have h1 := getList_list h [x]
  have h2 : (all (OctetS.list l ++ [x])).2 = 6 := by
    unfold all
    rw [h1]
    simp
  unfold WireS.parseD
  rw [h2]
  simp
theorem climb1 : climbOf 1 TD1 G = rootOf [115] 1 := by
  have h := verify_sig (h := 1) (i := 0) (by decide) (by decide) [115] TD1
  unfold verify at h
  by_cases hb : sigB 1 (sigOf [115] 1 0 TD1) = true
  · rw [if_pos hb] at h
    by_cases hc : climbOf 1 TD1 (sigOf [115] 1 0 TD1) = rootOf [115] 1
    · exact hc
    · rw [if_neg hc] at h
      cases h
  · rw [if_neg hb] at h
    cases h

end Go.Proofs.YtdmonfimdinkeaaGreatDoor.DlK
