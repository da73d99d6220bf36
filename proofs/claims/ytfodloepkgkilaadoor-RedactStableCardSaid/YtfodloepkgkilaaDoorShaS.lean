/-
  WHAT IS PROVED: plain laws of sums of bytes (SHA-256) as plain Lean computes them: lengths, block by block. No program, no condition beside those that each theorem names.
-/
import Derived.WalkKit
namespace Go.Proofs.YtfodloepkgkilaaDoor.ShaS

def rotr (x : UInt32) (n : Nat) : UInt32 := (x >>> UInt32.ofNat n) ||| (x <<< UInt32.ofNat (32 - n))
def kL : List UInt32 := [
  0x428a2f98, 0x71374491, 0xb5c0fbcf, 0xe9b5dba5, 0x3956c25b, 0x59f111f1, 0x923f82a4, 0xab1c5ed5,
  0xd807aa98, 0x12835b01, 0x243185be, 0x550c7dc3, 0x72be5d74, 0x80deb1fe, 0x9bdc06a7, 0xc19bf174,
  0xe49b69c1, 0xefbe4786, 0x0fc19dc6, 0x240ca1cc, 0x2de92c6f, 0x4a7484aa, 0x5cb0a9dc, 0x76f988da,
  0x983e5152, 0xa831c66d, 0xb00327c8, 0xbf597fc7, 0xc6e00bf3, 0xd5a79147, 0x06ca6351, 0x14292967,
  0x27b70a85, 0x2e1b2138, 0x4d2c6dfc, 0x53380d13, 0x650a7354, 0x766a0abb, 0x81c2c92e, 0x92722c85,
  0xa2bfe8a1, 0xa81a664b, 0xc24b8b70, 0xc76c51a3, 0xd192e819, 0xd6990624, 0xf40e3585, 0x106aa070,
  0x19a4c116, 0x1e376c08, 0x2748774c, 0x34b0bcb5, 0x391c0cb3, 0x4ed8aa4a, 0x5b9cca4f, 0x682e6ff3,
  0x748f82ee, 0x78a5636f, 0x84c87814, 0x8cc70208, 0x90befffa, 0xa4506ceb, 0xbef9a3f7, 0xc67178f2]
def beginL : List UInt32 := [0x6a09e667, 0xbb67ae85, 0x3c6ef372, 0xa54ff53a, 0x510e527f, 0x9b05688c, 0x1f83d9ab, 0x5be0cd19]

def word4 (a b c d : UInt8) : UInt32 := UInt32.ofNat (a.toNat * 16777216 + b.toNat * 65536 + c.toNat * 256 + d.toNat)
def nextW (l : List UInt32) (t : Nat) : UInt32 :=
  let x := l.getD (t - 15) 0
  let y := l.getD (t - 2) 0
  l.getD (t - 16) 0 + (rotr x 7 ^^^ rotr x 18 ^^^ x >>> 3) + l.getD (t - 7) 0 + (rotr y 17 ^^^ rotr y 19 ^^^ y >>> 10)
def wN (b : List UInt8) : Nat → List UInt32
  | 0 => []
  | t + 1 => wN b t ++ [if t < 16 then word4 (b.getD (4 * t) 0) (b.getD (4 * t + 1) 0) (b.getD (4 * t + 2) 0) (b.getD (4 * t + 3) 0) else nextW (wN b t) t]
def words (b : List UInt8) : List UInt32 := wN b 64
def stepL (x : List UInt32) (k w : UInt32) : List UInt32 :=
  match x with
  | [a, b, c, d, e, f, g, h] =>
    let t1 := h + (rotr e 6 ^^^ rotr e 11 ^^^ rotr e 25) + (e &&& f ^^^ ~~~e &&& g) + k + w
    let t2 := (rotr a 2 ^^^ rotr a 13 ^^^ rotr a 22) + (a &&& b ^^^ a &&& c ^^^ b &&& c)
    [t1 + t2, a, b, c, d + t1, e, f, g]
  | _ => []
def compN (v ws : List UInt32) : Nat → List UInt32
  | 0 => v
  | t + 1 => stepL (compN v ws t) (kL.getD t 0) (ws.getD t 0)
def comp (v : List UInt32) (ws : List UInt32) : List UInt32 := compN v ws 64
def addB (v : List UInt32) (b : List UInt8) : List UInt32 := List.zipWith (· + ·) v (comp v (words b))
def be (x : UInt32) : List UInt8 := [UInt8.ofNat (x.toNat / 16777216), UInt8.ofNat (x.toNat / 65536), UInt8.ofNat (x.toNat / 256), UInt8.ofNat x.toNat]
def fill (n : Nat) : List UInt8 := 0x80 :: (List.replicate ((119 - n % 64) % 64) 0 ++ (List.range 8).map fun i => UInt8.ofNat (n * 8 / 2 ^ (56 - 8 * i)))
def sumGo : Nat → List UInt32 → List UInt8 → List UInt32
  | 0, v, _ => v
  | f + 1, v, b => if b.length < 64 then v else sumGo f (addB v (b.take 64)) (b.drop 64)
/-- The blocks of bytes, one behind the other. -/
def sumB (v : List UInt32) (b : List UInt8) : List UInt32 := sumGo (b.length / 64 + 1) v b
def pad (s : List UInt8) : List UInt8 := s ++ fill s.length
def sum (s : List UInt8) : List UInt8 := (sumB beginL (pad s)).flatMap be
def mid (s : List UInt8) : List UInt8 := (sum s).take 16

theorem sumB_lt {v : List UInt32} {b : List UInt8} (h : b.length < 64) : sumB v b = v := by
  unfold sumB
  rw [sumGo, if_pos h]
theorem sumB_ge {v : List UInt32} {b : List UInt8} (h : 64 ≤ b.length) : sumB v b = sumB (addB v (b.take 64)) (b.drop 64) := by
  unfold sumB
  rw [sumGo, if_neg (by omega), List.length_drop, show (b.length - 64) / 64 + 1 = b.length / 64 by omega]

theorem wN_length (b : List UInt8) : ∀ t, (wN b t).length = t
  | 0 => rfl
  | t + 1 => by rw [wN, List.length_append, wN_length b t]; rfl
theorem wN_take (b : List UInt8) : ∀ (t k : Nat), (wN b (t + k)).take t = wN b t
  | t, 0 => by rw [List.take_of_length_le (by rw [wN_length]; omega)]; rfl
  | t, k + 1 => by
    rw [← Nat.add_assoc, wN, List.take_append_of_le_length (by rw [wN_length]; omega)]
    exact wN_take b t k
theorem words_length (b : List UInt8) : (words b).length = 64 := wN_length b 64
theorem stepL_length {x : List UInt32} (h : x.length = 8) (k w : UInt32) : (stepL x k w).length = 8 := by
  match x, h with
  | [a, b, c, d, e, f, g, h], _ => rfl
theorem compN_length {v : List UInt32} (h : v.length = 8) (ws : List UInt32) : ∀ t, (compN v ws t).length = 8
  | 0 => h
  | t + 1 => by rw [compN]; exact stepL_length (compN_length h ws t) _ _
theorem addB_length {v : List UInt32} (h : v.length = 8) (b : List UInt8) : (addB v b).length = 8 := by
  unfold addB comp
  rw [List.length_zipWith, compN_length h, h]
  rfl
theorem sumGo_length : ∀ (f : Nat) (v : List UInt32) (b : List UInt8), v.length = 8 → (sumGo f v b).length = 8
  | 0, v, b, h => h
  | f + 1, v, b, h => by
    rw [sumGo]
    split
    · exact h
    · exact sumGo_length f _ _ (addB_length h _)
theorem sumB_length {v : List UInt32} (h : v.length = 8) (b : List UInt8) : (sumB v b).length = 8 := sumGo_length _ v b h
theorem bytes_length {v : List UInt32} (h : v.length = 8) : (v.flatMap be).length = 32 := by
  match v, h with
  | [a, b, c, d, e, f, g, h], _ => rfl
theorem sum_length (s : List UInt8) : (sum s).length = 32 := bytes_length (sumB_length rfl _)
theorem mid_length (s : List UInt8) : (mid s).length = 16 := by
  unfold mid
  rw [List.length_take, sum_length]
  rfl

theorem fill_length (n : Nat) : (fill n).length = 9 + (119 - n % 64) % 64 := by
  simp [fill]
  omega
theorem pad_length (s : List UInt8) : (pad s).length % 64 = 0 := by
  rw [pad, List.length_append, fill_length]
  omega

/-! ### Digits -/
def digitU (n : Nat) : UInt8 := if n < 10 then UInt8.ofNat (48 + n) else UInt8.ofNat (87 + n)
def hex (h : List UInt8) : List UInt8 := h.flatMap fun x => [digitU (x.toNat / 16), digitU (x.toNat % 16)]
/-- A digit's number. -/
def digitN (c : UInt8) : Option Nat := if 48 ≤ c.toNat ∧ c.toNat ≤ 57 then some (c.toNat - 48) else if 97 ≤ c.toNat ∧ c.toNat ≤ 102 then some (c.toNat - 87) else none
def unhexGo : List UInt8 → Option (List UInt8)
  | [] => some []
  | [_] => none
  | x :: y :: r => match digitN x, digitN y, unhexGo r with
    | some a, some b, some l => some (UInt8.ofNat (16 * a + b) :: l)
    | _, _, _ => none
def unhex (s : List UInt8) : Option (List UInt8) := if s.length = 64 then unhexGo s else none

theorem digitN_digitU : ∀ n : Fin 16, digitN (digitU n.val) = some n.val := by decide
theorem unhexGo_hex : ∀ (h : List UInt8), unhexGo (hex h) = some h
  | [] => rfl
  | x :: r => by
    have hx := x.toNat_lt
    have h1 := digitN_digitU ⟨x.toNat / 16, by omega⟩
    have h2 := digitN_digitU ⟨x.toNat % 16, by omega⟩
    have h3 := unhexGo_hex r
    simp only at h1 h2
    show unhexGo (digitU (x.toNat / 16) :: digitU (x.toNat % 16) :: hex r) = _
    rw [unhexGo, h1, h2, h3]
    simp only [Option.some.injEq, List.cons.injEq, and_true]
    rw [show 16 * (x.toNat / 16) + x.toNat % 16 = x.toNat by omega]
    simp
theorem hex_length (h : List UInt8) : (hex h).length = 2 * h.length := by
  unfold hex
  induction h with
  | nil => rfl
  | cons x r ih => simp only [List.flatMap_cons, List.length_append, ih, List.length_cons, List.length_nil]; omega
theorem unhex_hex {h : List UInt8} (hl : h.length = 32) : unhex (hex h) = some h := by
  unfold unhex
  rw [if_pos (by rw [hex_length]; omega)]
  exact unhexGo_hex h
theorem hex_inj {g h : List UInt8} (e : hex g = hex h) : g = h := by
  have := unhexGo_hex g
  rw [e, unhexGo_hex h] at this
  simpa using this.symm

end Go.Proofs.YtfodloepkgkilaaDoor.ShaS
