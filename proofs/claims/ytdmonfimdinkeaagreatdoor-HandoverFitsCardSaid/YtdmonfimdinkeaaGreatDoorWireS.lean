/-
  WHAT IS PROVED: plain laws of the texts that servers exchange: entries, heads, deals, proofs, messages, as bytes: no program. Condition: what each theorem names.
-/
import Derived.Test.YtdmonfimdinkeaaGreatDoorEntS
namespace Go.Proofs.YtdmonfimdinkeaaGreatDoor.WireS
open Go.Proofs.YtdmonfimdinkeaaGreatDoor Go.Proofs.YtdmonfimdinkeaaGreatDoor.OctetS Go.Proofs.YtdmonfimdinkeaaGreatDoor.IdentS Go.Proofs.YtdmonfimdinkeaaGreatDoor.EntS

/-! ### Small numbers -/
def small (m : Nat) (t : List UInt8) : Option Nat := if (getNum t).2.2 = 0 ∧ t.length ≤ (getNum t).2.1 ∧ (getNum t).1 ≤ m then some (getNum t).1 else none
theorem small_num {m n : Nat} (hm : m ≤ maxNum) (hn : n ≤ m) : small m (num n) = some n := by
  have h := getNum_num (n := n) (by omega) []
  rw [List.append_nil] at h
  unfold small
  rw [h]
  simp [hn]
theorem small_spec {m : Nat} {t : List UInt8} {n : Nat} (h : small m t = some n) : n ≤ m ∧ num n = t := by
  unfold small at h
  split at h
  · rename_i hc
    cases h
    obtain ⟨h1, h2, h3⟩ := hc
    obtain ⟨n, u, y, hg⟩ : ∃ n u y, getNum t = (n, u, y) := ⟨_, _, _, rfl⟩
    rw [hg] at h1 h2 h3 ⊢
    simp only at h1 h2 h3 ⊢
    subst h1
    obtain ⟨_, _, hu, ht, _⟩ := getNum_ok hg
    refine ⟨h3, ?_⟩
    rw [ht, List.take_of_length_le h2]
  · cases h

/-! ### Entries -/
def readL : List (List UInt8) → Option Ent
  | [k, r, a, b, p, v] => if k = EntS.mark then (small 4096 a).bind fun x => (small 4096 b).bind fun y => if p.length = 32 ∧ roomB r = true then some ⟨r, x, y, p, v, []⟩ else none else none
  | _ => none
def read (s : List UInt8) : Option Ent := if (all s).2 = 0 then readL (all s).1 else none
def withSig (e : Ent) (s : List UInt8) : Ent := { e with sig := s }
def parseL : List (List UInt8) → Option Ent
  | [t, s] => (read t).map fun e => withSig e s
  | _ => none
def parse (s : List UInt8) : Option Ent := if (all s).2 = 0 then parseL (all s).1 else none

/-! ### Heads -/
structure Hd where
  room : List UInt8
  ep : Int
  ix : Int
  sum : List UInt8
  sig : List UInt8
def markH : List UInt8 := [104, 101, 97, 100]
def readHL : List (List UInt8) → Option Hd
  | [k, r, a, b, p] => if k = markH then (small 4096 a).bind fun x => (small 4096 b).bind fun y => if p.length = 32 ∧ roomB r = true then some ⟨r, x, y, p, []⟩ else none else none
  | _ => none
def readH (s : List UInt8) : Option Hd := if (all s).2 = 0 then readHL (all s).1 else none
def withSigH (e : Hd) (s : List UInt8) : Hd := { e with sig := s }
def parseHL : List (List UInt8) → Option Hd
  | [t, s] => (readH t).map fun e => withSigH e s
  | _ => none
def parseH (s : List UInt8) : Option Hd := if (all s).2 = 0 then parseHL (all s).1 else none

/-! ### Deals -/
structure Dl where
  kind : Int
  room : List UInt8
  ep : Int
  ix : Int
  hub : Int
  next : Int
  sig : List UInt8
def wordD (k : Int) : List UInt8 := if k = 1 then [111, 102, 102, 101, 114] else if k = 2 then [97, 99, 99, 101, 112, 116] else []
def kindD (s : List UInt8) : Int := if s = [111, 102, 102, 101, 114] then 1 else if s = [97, 99, 99, 101, 112, 116] then 2 else 0
def checkD (d : Dl) : Bool := (decide (d.kind = 1) || decide (d.kind = 2)) && (roomB d.room && (decide (d.sig.length ≤ 8192) && (placeB d.ep && (placeB d.ix && (decide (0 ≤ d.hub) && (decide (d.hub ≤ 63) && (decide (0 ≤ d.next) && (decide (d.next ≤ 63) && decide (d.hub ≠ d.next)))))))))
def readDL : List (List UInt8) → Option Dl
  | [k, r, a, b, h, n] => (small 4096 a).bind fun x => (small 4096 b).bind fun y => (small 4096 h).bind fun z => (small 4096 n).bind fun u =>
      if checkD ⟨kindD k, r, x, y, z, u, []⟩ = true then some ⟨kindD k, r, x, y, z, u, []⟩ else none
  | _ => none
def readD (s : List UInt8) : Option Dl := if (all s).2 = 0 then readDL (all s).1 else none
def withSigD (e : Dl) (s : List UInt8) : Dl := { e with sig := s }
def parseDL : List (List UInt8) → Option Dl
  | [t, s] => (readD t).map fun e => withSigD e s
  | _ => none
def parseD (s : List UInt8) : Option Dl := if (all s).2 = 0 then parseDL (all s).1 else none

/-! ### Proofs -/
structure Pf where
  server : Int
  a : List UInt8
  sigA : List UInt8
  b : List UInt8
  sigB : List UInt8
def parsePL : List (List UInt8) → Option Pf
  | [n, a, x, b, y] => (small 63 n).map fun k => ⟨k, a, x, b, y⟩
  | _ => none
def parseP (s : List UInt8) : Option Pf := if (all s).2 = 0 then parsePL (all s).1 else none

/-! ### Rejections and questions -/
def rejectedL : List (List UInt8) → Option (List UInt8 × Nat)
  | [h, c] => if h.length = 32 then (small 15 c).bind fun n => if 1 ≤ n then some (h, n) else none else none
  | _ => none
def rejected (s : List UInt8) : Option (List UInt8 × Nat) := if (all s).2 = 0 then rejectedL (all s).1 else none
def asked (s : List UInt8) : Option Nat := small 4096 s
theorem rej_fits {h : List UInt8} {c : Nat} (hh : h.length = 32) (h2 : c ≤ 15) : fits [h, num c] = true := by
  rw [fits_iff]
  refine ⟨by simp, fun t ht => ?_⟩
  have := OctetS.num_length (n := c) (by unfold maxNum; omega)
  simp only [List.mem_cons, List.not_mem_nil, or_false] at ht
  rcases ht with rfl | rfl <;> omega

/-! ### Messages -/
structure Ms where
  kind : Int
  frm : Int
  to : Int
  body : List UInt8
def wordN : Nat → List UInt8
  | 1 => [115, 117, 98, 109, 105, 116]
  | 2 => [114, 101, 106, 101, 99, 116]
  | 3 => [101, 110, 116, 114, 121]
  | 4 => [104, 101, 97, 100]
  | 5 => [97, 115, 107]
  | 6 => [112, 114, 111, 111, 102]
  | 7 => [100, 101, 97, 108]
  | _ => []
def kindM (s : List UInt8) : Nat := if s = wordN 1 then 1 else if s = wordN 2 then 2 else if s = wordN 3 then 3 else if s = wordN 4 then 4 else if s = wordN 5 then 5 else if s = wordN 6 then 6 else if s = wordN 7 then 7 else 0
def fitsB (k : Nat) (s : List UInt8) : Bool :=
  match k with
  | 1 => (EventS.parse s).isSome
  | 2 => (rejected s).isSome
  | 3 => (parse s).isSome
  | 4 => (parseH s).isSome
  | 5 => (asked s).isSome
  | 6 => (parseP s).isSome
  | 7 => (parseD s).isSome
  | _ => true
def serverB (n : Int) : Bool := decide (0 ≤ n) && decide (n ≤ 63)
def formB (m : Ms) : Bool := serverB m.frm && (serverB m.to && (decide (0 < m.kind) && decide (m.kind < 8)))
/-- Why a message is not right. -/
def why (m : Ms) : Int := if formB m = true then (if m.body.length ≤ 8192 then (if fitsB m.kind.toNat m.body = true then 0 else 6) else 7) else 2
structure Right (m : Ms) : Prop where
  f0 : 0 ≤ m.frm
  f1 : m.frm ≤ 63
  t0 : 0 ≤ m.to
  t1 : m.to ≤ 63
  k0 : 0 < m.kind
  k1 : m.kind < 8
  len : m.body.length ≤ 8192
  fit : fitsB m.kind.toNat m.body = true
def partsM (m : Ms) : List (List UInt8) := [wordN m.kind.toNat, num m.frm.toNat, num m.to.toNat, m.body]

theorem wordN_len (k : Nat) : (wordN k).length ≤ 6 := by
  unfold wordN
  split <;> simp
theorem num_server {n : Int} (h0 : 0 ≤ n) (h1 : n ≤ 63) : (num n.toNat).length ≤ 2 := OctetS.num_length2 (by omega)
theorem Right.fits {m : Ms} (h : Right m) : OctetS.fits (partsM m) = true := by
  rw [fits_iff]
  refine ⟨by simp [partsM], fun t ht => ?_⟩
  have h1 := num_server h.f0 h.f1
  have h2 := num_server h.t0 h.t1
  have h3 := wordN_len m.kind.toNat
  simp only [partsM, List.mem_cons, List.not_mem_nil, or_false] at ht
  rcases ht with rfl | rfl | rfl | rfl
  · omega
  · omega
  · omega
  · exact h.len

end Go.Proofs.YtdmonfimdinkeaaGreatDoor.WireS
