/-
  WHAT IS PROVED: plain facts of lives' head, and what '==' says of two heads. Condition: what each theorem names.
-/
import Derived.Test.YtdmonfimdinkeaaGreatDoorEntU
import Derived.Test.YtdmonfimdinkeaaGreatDoorHdS
namespace Go.Proofs.YtdmonfimdinkeaaGreatDoor.EqHd
open Go Go.RowKit Go.Proofs.YtdmonfimdinkeaaGreatDoor Go.Proofs.YtdmonfimdinkeaaGreatDoor.ShaB Go.Proofs.YtdmonfimdinkeaaGreatDoor.EqHash Go.Proofs.YtdmonfimdinkeaaGreatDoor.EqEnt Go.Proofs.YtdmonfimdinkeaaGreatDoor.WireT Go.Proofs.YtdmonfimdinkeaaGreatDoor.OctP
set_option linter.unusedVariables false
set_option linter.unusedSimpArgs false

theorem ext_sum (r : ByteArray) (ep ix : Int) (pv : List UInt8) (s : ByteArray) (hp : pv.length = 32) : (hdA r ep ix pv s).extract 3 35 = pB 32 pv := by
  rw [← pB_of hp]
  unfold hdA
  have h1 : (byV pv).length = 32 := by rw [byV_length, hp]
  rw [List.extract_toArray]
  congr 1
  rw [List.extract_eq_take_drop]
  simp [h1]
set_option maxHeartbeats 1000000 in
theorem fieldsHd (d : Nat) (r1 r2 s1 s2 : ByteArray) (a1 a2 b1 b2 : Int) (p1 p2 : List UInt8) (h1 : p1.length = 32) (h2 : p2.length = 32) (w : World) :
    (Op.eqFields (d + 2) (hdA r1 a1 b1 p1 s1) (hdA r2 a2 b2 p2 s2) [⟨"Room", 9, 0, false, "", "", 0⟩, ⟨"Epoch", 3, 1, false, "", "", 16⟩, ⟨"Index", 3, 2, false, "", "", 24⟩, ⟨"Sum", 23, 3, false, "", "", 32⟩, ⟨"Sig", 9, 35, false, "", "", 64⟩]).run Tryz.prog w =
    .ok (r1.toList == r2.toList && (a1 == a2 && (b1 == b2 && (hEq p1 p2 && s1.toList == s2.toList)))) w := by
  have u3 : Tryz.prog.underlying 3 = some (.int .i64) := by kernel_rfl
  have u9 : Tryz.prog.underlying 9 = some .string := by kernel_rfl
  have k3 : Tryz.prog.plainKey 3 = true := by kernel_rfl
  have k9 : Tryz.prog.plainKey 9 = true := by kernel_rfl
  have E1 : HdP (hdA r1 a1 b1 p1 s1) r1 a1 b1 p1 s1 := ⟨rfl, h1⟩
  have E2 : HdP (hdA r2 a2 b2 p2 s2) r2 a2 b2 p2 s2 := ⟨rfl, h2⟩
  have x1 := ext_sum r1 a1 b1 p1 s1 h1
  have x2 := ext_sum r2 a2 b2 p2 s2 h2
  obtain ⟨A, hA⟩ : ∃ A, A = hdA r1 a1 b1 p1 s1 := ⟨_, rfl⟩
  obtain ⟨B, hB⟩ : ∃ B, B = hdA r2 a2 b2 p2 s2 := ⟨_, rfl⟩
  rw [← hA] at E1 x1 ⊢
  rw [← hB] at E2 x2 ⊢
  have q0 := run_part_plain w k9 (off := 0) E1.c0
  have q0' := run_part_plain w k9 (off := 0) E2.c0
  have q1 := run_part_plain w k3 (off := 1) E1.c1
  have q1' := run_part_plain w k3 (off := 1) E2.c1
  have q2 := run_part_plain w k3 (off := 2) E1.c2
  have q2' := run_part_plain w k3 (off := 2) E2.c2
  have q3 := part_hash w A 3
  have q3' := part_hash w B 3
  have q5 := run_part_plain w k9 (off := 35) E1.c35
  have q5' := run_part_plain w k9 (off := 35) E2.c35
  rw [x1] at q3
  rw [x2] at q3'
  have z0 := run_equalIn_string (P := Tryz.prog) w (d + 1) 9 r1 r2 u9
  have z1 := run_equalIn_int (P := Tryz.prog) w (d + 1) 3 .i64 .i64 a1 a2 u3
  have z2 := run_equalIn_int (P := Tryz.prog) w (d + 1) 3 .i64 .i64 b1 b2 u3
  have z3 := eqHashD d p1 p2 w
  have z5 := run_equalIn_string (P := Tryz.prog) w (d + 1) 9 s1 s2 u9
  have h := eqF_cons (f := ⟨"Room", 9, 0, false, "", "", 0⟩) (by decide) q0 q0' z0 (eqF_cons (f := ⟨"Epoch", 3, 1, false, "", "", 16⟩) (by decide) q1 q1' z1 (eqF_cons (f := ⟨"Index", 3, 2, false, "", "", 24⟩) (by decide) q2 q2' z2
    (eqF_cons (f := ⟨"Sum", 23, 3, false, "", "", 32⟩) (by decide) q3 q3' z3 (eqF_cons (f := ⟨"Sig", 9, 35, false, "", "", 64⟩) (by decide) q5 q5' z5 eqF_nil))))
  rw [Bool.and_true] at h
  exact h
theorem eqHd (r1 r2 s1 s2 : ByteArray) (a1 a2 b1 b2 : Int) (p1 p2 : List UInt8) (h1 : p1.length = 32) (h2 : p2.length = 32) (w : World) : (Op.equalIn 10000 25 (.agg (hdA r1 a1 b1 p1 s1)) (.agg (hdA r2 a2 b2 p2 s2))).run Tryz.prog w =
    .ok (r1.toList == r2.toList && (a1 == a2 && (b1 == b2 && (hEq p1 p2 && s1.toList == s2.toList)))) w := by
  have hS : Tryz.prog.underlying 25 = some (.struct (Tryz.prog.fieldsOf 25)) := by kernel_rfl
  have hF : (Tryz.prog.fieldsOf 25).toList = [⟨"Room", 9, 0, false, "", "", 0⟩, ⟨"Epoch", 3, 1, false, "", "", 16⟩, ⟨"Index", 3, 2, false, "", "", 24⟩, ⟨"Sum", 23, 3, false, "", "", 32⟩, ⟨"Sig", 9, 35, false, "", "", 64⟩] := by kernel_rfl
  have hp : Tryz.prog.stoodInHeld 25 = false := by kernel_rfl
  have h := fieldsHd 9997 r1 r2 s1 s2 a1 a2 b1 b2 p1 p2 h1 h2 w
  rw [← hF] at h
  rw [show (10000 : Nat) = 9999 + 1 from rfl, run_equalIn_agg w 9999 25 _ _ hS hp]
  exact h
theorem guardHd : Go.Program.eqGuardType Tryz.prog Tryz.prog.depth 25 = false := by kernel_rfl
end Go.Proofs.YtdmonfimdinkeaaGreatDoor.EqHd

namespace Go.Proofs.YtdmonfimdinkeaaGreatDoor.HdK
open Go.Proofs.YtdmonfimdinkeaaGreatDoor.OctetS Go.Proofs.YtdmonfimdinkeaaGreatDoor.IdentS Go.Proofs.YtdmonfimdinkeaaGreatDoor.EntS Go.Proofs.YtdmonfimdinkeaaGreatDoor.KeyS Go.Proofs.YtdmonfimdinkeaaGreatDoor.KeyN Go.Proofs.YtdmonfimdinkeaaGreatDoor.NSha Go.Proofs.YtdmonfimdinkeaaGreatDoor.EntK Go.Proofs.YtdmonfimdinkeaaGreatDoor.WireS Go.Proofs.YtdmonfimdinkeaaGreatDoor.WireT
set_option linter.unusedVariables false
set_option maxRecDepth 100000

/-- The entry's sum. -/
def sm : List UInt8 := ShaS.sum T5
theorem sm_len : sm.length = 32 := ShaS.sum_length _
theorem sm_bN : bN sm = [249, 200, 118, 160, 220, 29, 98, 80, 156, 131, 132, 93, 67, 34, 73, 193, 190, 169, 101, 119, 90, 52, 91, 237, 241, 72, 83, 182, 99, 232, 233, 38] := by
  unfold sm
  rw [← sum_eq]
  exact eq_of_beq (by decide +kernel)
def hd (ep : Nat) (s : List UInt8) : Hd := ⟨rm, (ep : Int), 5, sm, s⟩
def TH1 : List UInt8 := OctetS.list [markH, rm, num 1, num 5, sm]
def TH2 : List UInt8 := OctetS.list [markH, rm, num 2, num 5, sm]
theorem th_pre (a : List UInt8) (pre : List UInt8) (h : num 5 ++ (OctetS.text markH ++ (OctetS.text rm ++ (OctetS.text a ++ (OctetS.text (num 5) ++ num 32)))) = pre) : OctetS.list [markH, rm, a, num 5, sm] = pre ++ sm := by
  rw [← h]
  unfold OctetS.list
  simp only [List.length_cons, List.length_nil, List.flatMap_cons, List.flatMap_nil, List.append_nil, List.append_assoc]
  have h5 : OctetS.text sm = num 32 ++ sm := by
    unfold OctetS.text
    rw [sm_len]
  rw [h5]
theorem th1_eq : TH1 = [5, 4, 104, 101, 97, 100, 7, 33, 104, 97, 108, 108, 58, 48, 1, 1, 1, 5, 32] ++ sm := th_pre _ _ (by decide +kernel)
theorem th2_eq : TH2 = [5, 4, 104, 101, 97, 100, 7, 33, 104, 97, 108, 108, 58, 48, 1, 2, 1, 5, 32] ++ sm := th_pre _ _ (by decide +kernel)
def G : List UInt8 := sigOf [115] 1 0 TH1
theorem G_len : G.length = 1121 := by
  unfold G
  rw [sigOf_length (by decide)]
theorem G_head : (G.headD 0).toNat = 0 := by
  unfold G
  exact sigOf_head (by decide) (by decide) _ _
theorem G_le : G.length ≤ 8192 := by
  rw [G_len]
  omega
theorem right {ep : Nat} (hi : ep ≤ 4096) {s : List UInt8} (hs : s.length ≤ 8192) : HdS.Right (hd ep s) := ⟨room0, by show (0 : Int) ≤ ep; omega, by show (ep : Int) ≤ 4096; omega, by show (0 : Int) ≤ 5; omega, by show (5 : Int) ≤ 4096; omega, hs⟩
theorem text1 (s : List UInt8) : HdS.text (hd 1 s) = TH1 := rfl
theorem text2 (s : List UInt8) : HdS.text (hd 2 s) = TH2 := rfl
theorem TH1_len : TH1.length ≤ 8192 := by
  rw [th1_eq, List.length_append, sm_len]
  decide
theorem TH2_len : TH2.length ≤ 8192 := by
  rw [th2_eq, List.length_append, sm_len]
  decide
theorem check1 {s : List UInt8} (hs : s.length ≤ 8192) : checkH (hd 1 s) = true := HdS.check_iff.2 (right (by omega) hs)
theorem check2 {s : List UInt8} (hs : s.length ≤ 8192) : checkH (hd 2 s) = true := HdS.check_iff.2 (right (by omega) hs)
theorem bytes1 : HdS.bytesE (hd 1 G) = OctetS.list [TH1, G] := by
  unfold HdS.bytesE
  rw [text1]
  rfl
theorem fits1 : fits [TH1, G] = true := by
  have h := HdS.bytes_fits (right (ep := 1) (by omega) (s := G) G_le) (by rw [text1]; exact TH1_len)
  rw [text1] at h
  exact h
theorem parse1 : parseH (OctetS.list [TH1, G]) = some (hd 1 G) := by
  have h := HdS.parse_bytes (right (ep := 1) (by omega) (s := G) G_le) sm_len (by rw [text1]; exact TH1_len)
  rw [bytes1] at h
  exact h
theorem read_two {l : List (List UInt8)} (h : fits l = true) (hl : l.length = 2) : readH (OctetS.list l) = none := by
  unfold readH
  rw [all_list h]
  match l, hl with
  | [a, b], _ => rfl
theorem climb1 : climbOf 1 TH1 G = rootOf [115] 1 := by
  have h := verify_sig (h := 1) (i := 0) (by decide) (by decide) [115] TH1
  unfold verify at h
  by_cases hb : sigB 1 (sigOf [115] 1 0 TH1) = true
  · rw [if_pos hb] at h
    by_cases hc : climbOf 1 TH1 (sigOf [115] 1 0 TH1) = rootOf [115] 1
    · exact hc
    · rw [if_neg hc] at h
      cases h
  · rw [if_neg hb] at h
    cases h
theorem bN_app (a b : List UInt8) : bN (a ++ b) = bN a ++ bN b := List.map_append
theorem climb2 : climbOf 1 TH2 G ≠ rootOf [115] 1 := other_no (t := [5, 4, 104, 101, 97, 100, 7, 33, 104, 97, 108, 108, 58, 48, 1, 1, 1, 5, 32, 249, 200, 118, 160, 220, 29, 98, 80, 156, 131, 132, 93, 67, 34, 73, 193, 190, 169, 101, 119, 90, 52, 91, 237, 241, 72, 83, 182, 99, 232, 233, 38]) (o := [5, 4, 104, 101, 97, 100, 7, 33, 104, 97, 108, 108, 58, 48, 1, 2, 1, 5, 32, 249, 200, 118, 160, 220, 29, 98, 80, 156, 131, 132, 93, 67, 34, 73, 193, 190, 169, 101, 119, 90, 52, 91, 237, 241, 72, 83, 182, 99, 232, 233, 38]) (r := [221, 4, 90, 159, 118, 155, 4, 154, 155, 157, 137, 243, 29, 75, 25, 62, 173, 167, 239, 229, 52, 139, 42, 82, 161, 155, 52, 217, 140, 45, 65, 28]) (b := [81, 113, 120, 159, 163, 147, 225, 96, 89, 35, 54, 204, 64, 54, 120, 99, 131, 243, 23, 195, 182, 57, 23, 98, 112, 166, 41, 221, 222, 168, 159, 245]) (by rw [th1_eq, bN_app, sm_bN]; decide +kernel) (by rw [th2_eq, bN_app, sm_bN]; decide +kernel) (by decide +kernel) (by decide +kernel) (by decide)

end Go.Proofs.YtdmonfimdinkeaaGreatDoor.HdK
