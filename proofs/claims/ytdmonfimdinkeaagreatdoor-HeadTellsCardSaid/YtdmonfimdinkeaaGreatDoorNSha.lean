/-
  WHAT IS PROVED: sums over natural numbers, made for the kernel's own reckoning, are the sums that 'ShaS' says. Plain: no program. Condition: what each theorem names.
-/
import Derived.Test.YtdmonfimdinkeaaGreatDoorPlain
noncomputable section
namespace Go.Proofs.YtdmonfimdinkeaaGreatDoor.NSha
open Go.Proofs.YtdmonfimdinkeaaGreatDoor.ShaS
set_option linter.unusedVariables false
set_option maxRecDepth 100000

def kN : List Nat := [1116352408, 1899447441, 3049323471, 3921009573, 961987163, 1508970993, 2453635748, 2870763221, 3624381080, 310598401, 607225278, 1426881987, 1925078388, 2162078206, 2614888103, 3248222580, 3835390401, 4022224774, 264347078, 604807628, 770255983, 1249150122, 1555081692, 1996064986, 2554220882, 2821834349, 2952996808, 3210313671, 3336571891, 3584528711, 113926993, 338241895, 666307205, 773529912, 1294757372, 1396182291, 1695183700, 1986661051, 2177026350, 2456956037, 2730485921, 2820302411, 3259730800, 3345764771, 3516065817, 3600352804, 4094571909, 275423344, 430227734, 506948616, 659060556, 883997877, 958139571, 1322822218, 1537002063, 1747873779, 1955562222, 2024104815, 2227730452, 2361852424, 2428436474, 2756734187, 3204031479, 3329325298]
def S1 (y : Nat) : Nat := Nat.mod (Nat.xor (Nat.xor (Nat.shiftRight y 6) (Nat.shiftRight y 11)) (Nat.shiftRight y 25)) 4294967296
def S0 (y : Nat) : Nat := Nat.mod (Nat.xor (Nat.xor (Nat.shiftRight y 2) (Nat.shiftRight y 13)) (Nat.shiftRight y 22)) 4294967296
def s0 (x y : Nat) : Nat := Nat.xor (Nat.mod (Nat.xor (Nat.shiftRight y 7) (Nat.shiftRight y 18)) 4294967296) (Nat.shiftRight x 3)
def s1 (x y : Nat) : Nat := Nat.xor (Nat.mod (Nat.xor (Nat.shiftRight y 17) (Nat.shiftRight y 19)) 4294967296) (Nat.shiftRight x 10)
def dbl (x : Nat) : Nat := Nat.mul x 4294967297
def t1 (e f g h k w : Nat) : Nat := Nat.add (Nat.add (Nat.add (Nat.add h (S1 (dbl e))) (Nat.xor (Nat.land e f) (Nat.land (Nat.sub 4294967295 e) g))) k) w
def t2 (a b c : Nat) : Nat := Nat.add (S0 (dbl a)) (Nat.xor (Nat.xor (Nat.land a b) (Nat.land a c)) (Nat.land b c))
def red (x : Nat) : Nat := Nat.mod x 4294967296
def nxt (w0 w1 w9 w14 : Nat) : Nat := red (Nat.add (Nat.add (Nat.add w0 (s0 w1 (dbl w1))) w9) (s1 w14 (dbl w14)))
def go (l : List Nat) : (a b c d e f g h w0 w1 w2 w3 w4 w5 w6 w7 w8 w9 w10 w11 w12 w13 w14 w15 : Nat) → List Nat :=
  List.rec (motive := fun _ => (a b c d e f g h w0 w1 w2 w3 w4 w5 w6 w7 w8 w9 w10 w11 w12 w13 w14 w15 : Nat) → List Nat) (fun a b c d e f g h _ _ _ _ _ _ _ _ _ _ _ _ _ _ _ _ => [a, b, c, d, e, f, g, h])
    (fun k _ r a b c d e f g h w0 w1 w2 w3 w4 w5 w6 w7 w8 w9 w10 w11 w12 w13 w14 w15 => r (red (Nat.add (t1 e f g h k w0) (t2 a b c))) a b c (red (Nat.add d (t1 e f g h k w0))) e f g w1 w2 w3 w4 w5 w6 w7 w8 w9 w10 w11 w12 w13 w14 w15 (nxt w0 w1 w9 w14)) l
def comp (v w : List Nat) : List Nat := match v, w with
  | [a, b, c, d, e, f, g, h], [w0, w1, w2, w3, w4, w5, w6, w7, w8, w9, w10, w11, w12, w13, w14, w15] => match go kN a b c d e f g h w0 w1 w2 w3 w4 w5 w6 w7 w8 w9 w10 w11 w12 w13 w14 w15 with
    | [a', b', c', d', e', f', g', h'] => [red (Nat.add a a'), red (Nat.add b b'), red (Nat.add c c'), red (Nat.add d d'), red (Nat.add e e'), red (Nat.add f f'), red (Nat.add g g'), red (Nat.add h h')]
    | _ => []
  | _, _ => []
def w4 (a b c d : Nat) : Nat := Nat.add (Nat.add (Nat.add (Nat.mul a 16777216) (Nat.mul b 65536)) (Nat.mul c 256)) d
def wds : List Nat → List Nat
  | a :: b :: c :: d :: r => w4 a b c d :: wds r
  | _ => []
def force {α : Type} (l : List Nat) (r : α) : α := List.rec (motive := fun _ => α) r (fun x _ h => cond (Nat.beq x x) h h) l
def sumGo : Nat → List Nat → List Nat → List Nat
  | 0, v, _ => v
  | f + 1, v, b => match b with
    | [] => v
    | _ => force v (sumGo f (comp v (wds (b.take 64))) (b.drop 64))
def be (x : Nat) : List Nat := [Nat.div x 16777216, Nat.mod (Nat.div x 65536) 256, Nat.mod (Nat.div x 256) 256, Nat.mod x 256]
def fill (n : Nat) : List Nat := 0x80 :: (List.replicate ((119 - n % 64) % 64) 0 ++ (List.range 8).map fun i => (n * 8 / 2 ^ (56 - 8 * i)) % 256)
def begN : List Nat := [1779033703, 3144134277, 1013904242, 2773480762, 1359893119, 2600822924, 528734635, 1541459225]
def sum (s : List Nat) : List Nat := (sumGo (s.length / 64 + 2) begN (s ++ fill s.length)).flatMap be
def mid (s : List Nat) : List Nat := (sum s).take 16

/-! ### One word -/
theorem xor_mod (a b : Nat) : Nat.mod (Nat.xor a b) 4294967296 = Nat.xor (Nat.mod a 4294967296) (Nat.mod b 4294967296) := by
  show (a ^^^ b) % 2 ^ 32 = (a % 2 ^ 32) ^^^ (b % 2 ^ 32)
  exact Nat.xor_mod_two_pow
theorem rot (x : UInt32) (n : Nat) (h0 : 0 < n) (h : n < 32) : Nat.mod (Nat.shiftRight (dbl x.toNat) n) 4294967296 = (rotr x n).toNat := by
  have hx : x.toNat < 4294967296 := x.toNat_lt
  unfold rotr dbl
  rw [UInt32.toNat_or, UInt32.toNat_shiftRight, UInt32.toNat_shiftLeft]
  have e1 : (UInt32.ofNat n).toNat % 32 = n := by
    rw [UInt32.toNat_ofNat']; omega
  have e2 : (UInt32.ofNat (32 - n)).toNat % 32 = 32 - n := by
    rw [UInt32.toNat_ofNat']; omega
  rw [e1, e2, Nat.shiftRight_eq_div_pow, Nat.shiftLeft_eq]
  show (x.toNat * 4294967297) >>> n % 4294967296 = _
  rw [Nat.shiftRight_eq_div_pow]
  have hp : 2 ^ n * 2 ^ (32 - n) = 4294967296 := by rw [← Nat.pow_add, show n + (32 - n) = 32 by omega]
  have hn : 0 < 2 ^ n := Nat.two_pow_pos n
  have hm : 0 < 2 ^ (32 - n) := Nat.two_pow_pos _
  obtain ⟨q, r, hq, hr⟩ : ∃ q r, x.toNat = 2 ^ n * q + r ∧ r < 2 ^ n := ⟨x.toNat / 2 ^ n, x.toNat % 2 ^ n, (Nat.div_add_mod _ _).symm, Nat.mod_lt _ hn⟩
  have hqd : x.toNat / 2 ^ n = q := by rw [hq, Nat.mul_add_div hn, Nat.div_eq_of_lt hr, Nat.add_zero]
  have hql : q < 2 ^ (32 - n) := by
    refine Nat.lt_of_mul_lt_mul_left (a := 2 ^ n) ?_
    rw [hp]
    omega
  have e3 : x.toNat * 4294967297 / 2 ^ n = x.toNat * 2 ^ (32 - n) + q := by
    have : x.toNat * 4294967297 = 2 ^ n * (x.toNat * 2 ^ (32 - n)) + x.toNat := by
      rw [← Nat.mul_assoc, Nat.mul_comm (2 ^ n) x.toNat, Nat.mul_assoc, hp]
      omega
    rw [this, Nat.mul_add_div hn, hqd]
  have e4 : x.toNat * 2 ^ (32 - n) = 4294967296 * q + r * 2 ^ (32 - n) := by
    rw [hq, Nat.add_mul, ← hp, Nat.mul_assoc, Nat.mul_assoc, Nat.mul_comm q (2 ^ (32 - n))]
  have hrl : r * 2 ^ (32 - n) + 2 ^ (32 - n) ≤ 4294967296 := by
    rw [← hp, ← Nat.succ_mul]
    exact Nat.mul_le_mul_right _ hr
  have e5 : x.toNat * 2 ^ (32 - n) % 2 ^ 32 = 2 ^ (32 - n) * r := by
    rw [e4, show (2 : Nat) ^ 32 = 4294967296 from rfl, Nat.mul_add_mod, Nat.mod_eq_of_lt (by omega), Nat.mul_comm]
  rw [e3, e5, hqd, Nat.or_comm, ← Nat.two_pow_add_eq_or_of_lt hql]
  rw [e4, Nat.mul_comm (2 ^ (32 - n)) r, Nat.add_assoc, Nat.mul_add_mod, Nat.mod_eq_of_lt (by omega)]
theorem S1_eq (e : UInt32) : S1 (dbl e.toNat) = (rotr e 6 ^^^ rotr e 11 ^^^ rotr e 25).toNat := by
  unfold S1
  rw [xor_mod, xor_mod, rot e 6 (by omega) (by omega), rot e 11 (by omega) (by omega), rot e 25 (by omega) (by omega), UInt32.toNat_xor, UInt32.toNat_xor]
  rfl
theorem S0_eq (e : UInt32) : S0 (dbl e.toNat) = (rotr e 2 ^^^ rotr e 13 ^^^ rotr e 22).toNat := by
  unfold S0
  rw [xor_mod, xor_mod, rot e 2 (by omega) (by omega), rot e 13 (by omega) (by omega), rot e 22 (by omega) (by omega), UInt32.toNat_xor, UInt32.toNat_xor]
  rfl
theorem s0_eq (x : UInt32) : s0 x.toNat (dbl x.toNat) = (rotr x 7 ^^^ rotr x 18 ^^^ x >>> 3).toNat := by
  unfold s0
  rw [xor_mod, rot x 7 (by omega) (by omega), rot x 18 (by omega) (by omega), UInt32.toNat_xor, UInt32.toNat_xor, UInt32.toNat_shiftRight]
  rfl
theorem s1_eq (x : UInt32) : s1 x.toNat (dbl x.toNat) = (rotr x 17 ^^^ rotr x 19 ^^^ x >>> 10).toNat := by
  unfold s1
  rw [xor_mod, rot x 17 (by omega) (by omega), rot x 19 (by omega) (by omega), UInt32.toNat_xor, UInt32.toNat_xor, UInt32.toNat_shiftRight]
  rfl
theorem ch_eq (e f g : UInt32) : Nat.xor (Nat.land e.toNat f.toNat) (Nat.land (Nat.sub 4294967295 e.toNat) g.toNat) = (e &&& f ^^^ ~~~e &&& g).toNat := by
  rw [UInt32.toNat_xor, UInt32.toNat_and, UInt32.toNat_and, UInt32.toNat_not]
  rfl
theorem maj_eq (a b c : UInt32) : Nat.xor (Nat.xor (Nat.land a.toNat b.toNat) (Nat.land a.toNat c.toNat)) (Nat.land b.toNat c.toNat) = (a &&& b ^^^ a &&& c ^^^ b &&& c).toNat := by
  rw [UInt32.toNat_xor, UInt32.toNat_xor, UInt32.toNat_and, UInt32.toNat_and, UInt32.toNat_and]
  rfl
def T1 (e f g h k w : UInt32) : UInt32 := h + (rotr e 6 ^^^ rotr e 11 ^^^ rotr e 25) + (e &&& f ^^^ ~~~e &&& g) + k + w
def T2 (a b c : UInt32) : UInt32 := (rotr a 2 ^^^ rotr a 13 ^^^ rotr a 22) + (a &&& b ^^^ a &&& c ^^^ b &&& c)
def NX (w0 w1 w9 w14 : UInt32) : UInt32 := w0 + (rotr w1 7 ^^^ rotr w1 18 ^^^ w1 >>> 3) + w9 + (rotr w14 17 ^^^ rotr w14 19 ^^^ w14 >>> 10)
theorem t1_eq (e f g h k w : UInt32) : t1 e.toNat f.toNat g.toNat h.toNat k.toNat w.toNat % 4294967296 = (T1 e f g h k w).toNat := by
  unfold t1 T1
  rw [S1_eq, ch_eq]
  simp only [UInt32.toNat_add]
  show ((_ : Nat) + _ + _ + _ + _) % 4294967296 = _
  omega
theorem t2_eq (a b c : UInt32) : t2 a.toNat b.toNat c.toNat % 4294967296 = (T2 a b c).toNat := by
  unfold t2 T2
  rw [S0_eq, maj_eq]
  simp only [UInt32.toNat_add]
  rfl
theorem a_eq (a b c e f g h k w : UInt32) : red (Nat.add (t1 e.toNat f.toNat g.toNat h.toNat k.toNat w.toNat) (t2 a.toNat b.toNat c.toNat)) = (T1 e f g h k w + T2 a b c).toNat := by
  rw [UInt32.toNat_add, ← t1_eq, ← t2_eq]
  show ((_ : Nat) + _) % 4294967296 = _
  omega
theorem e_eq (d e f g h k w : UInt32) : red (Nat.add d.toNat (t1 e.toNat f.toNat g.toNat h.toNat k.toNat w.toNat)) = (d + T1 e f g h k w).toNat := by
  rw [UInt32.toNat_add, ← t1_eq]
  show ((_ : Nat) + _) % 4294967296 = _
  omega
theorem nxt_eq (w0 w1 w9 w14 : UInt32) : nxt w0.toNat w1.toNat w9.toNat w14.toNat = (NX w0 w1 w9 w14).toNat := by
  unfold nxt NX
  rw [s0_eq, s1_eq]
  simp only [UInt32.toNat_add]
  show ((_ : Nat) + _ + _ + _) % 4294967296 = _
  omega

/-! ### A block -/
def goL : List UInt32 → List UInt32 → List UInt32 → List UInt32
  | [], x, _ => x
  | k :: ks, x, w => goL ks (stepL x k (w.getD 0 0)) (w.drop 1 ++ [NX (w.getD 0 0) (w.getD 1 0) (w.getD 9 0) (w.getD 14 0)])
def lN (l : List UInt32) : List Nat := l.map UInt32.toNat
theorem go_cons (ks : List Nat) (k a b c d e f g h w0 w1 w2 w3 w4 w5 w6 w7 w8 w9 w10 w11 w12 w13 w14 w15 : Nat) : go (k :: ks) a b c d e f g h w0 w1 w2 w3 w4 w5 w6 w7 w8 w9 w10 w11 w12 w13 w14 w15 = go ks (red (Nat.add (t1 e f g h k w0) (t2 a b c))) a b c (red (Nat.add d (t1 e f g h k w0))) e f g w1 w2 w3 w4 w5 w6 w7 w8 w9 w10 w11 w12 w13 w14 w15 (nxt w0 w1 w9 w14) := by
  unfold go
  dsimp only
theorem goL_cons (ks : List UInt32) (k a b c d e f g h w0 w1 w2 w3 w4 w5 w6 w7 w8 w9 w10 w11 w12 w13 w14 w15 : UInt32) : goL (k :: ks) [a, b, c, d, e, f, g, h] [w0, w1, w2, w3, w4, w5, w6, w7, w8, w9, w10, w11, w12, w13, w14, w15] = goL ks [T1 e f g h k w0 + T2 a b c, a, b, c, d + T1 e f g h k w0, e, f, g] [w1, w2, w3, w4, w5, w6, w7, w8, w9, w10, w11, w12, w13, w14, w15, NX w0 w1 w9 w14] := by
  rw [goL]
  rfl
theorem go_eq : ∀ (ks : List UInt32) (a b c d e f g h w0 w1 w2 w3 w4 w5 w6 w7 w8 w9 w10 w11 w12 w13 w14 w15 : UInt32), go (lN ks) a.toNat b.toNat c.toNat d.toNat e.toNat f.toNat g.toNat h.toNat w0.toNat w1.toNat w2.toNat w3.toNat w4.toNat w5.toNat w6.toNat w7.toNat w8.toNat w9.toNat w10.toNat w11.toNat w12.toNat w13.toNat w14.toNat w15.toNat = lN (goL ks [a, b, c, d, e, f, g, h] [w0, w1, w2, w3, w4, w5, w6, w7, w8, w9, w10, w11, w12, w13, w14, w15])
  | [], a, b, c, d, e, f, g, h, w0, w1, w2, w3, w4, w5, w6, w7, w8, w9, w10, w11, w12, w13, w14, w15 => rfl
  | k :: ks, a, b, c, d, e, f, g, h, w0, w1, w2, w3, w4, w5, w6, w7, w8, w9, w10, w11, w12, w13, w14, w15 => by
    rw [lN, List.map_cons, go_cons, goL_cons, a_eq, e_eq, nxt_eq]
    exact go_eq ks _ a b c _ e f g w1 w2 w3 w4 w5 w6 w7 w8 w9 w10 w11 w12 w13 w14 w15 _
/-- The words of a block, and those that would follow. -/
def wd (b : List UInt8) (t : Nat) : UInt32 := (wN b 80).getD t 0
theorem wd_of {b : List UInt8} {t n : Nat} (h : t < n) (hn : n ≤ 80) : (wN b n).getD t 0 = wd b t := by
  unfold wd
  have h1 := wN_take b n (80 - n)
  rw [show n + (80 - n) = 80 by omega] at h1
  rw [← h1, List.getD_eq_getElem?_getD, List.getD_eq_getElem?_getD, List.getElem?_take, if_pos h]
theorem wN_last (b : List UInt8) (t : Nat) (x : UInt32) : (wN b t ++ [x]).getD t 0 = x := by
  rw [List.getD_eq_getElem?_getD, List.getElem?_append_right (by rw [wN_length]; omega), wN_length, Nat.sub_self]
  rfl
theorem wd_next (b : List UInt8) (t : Nat) (h : t + 16 < 80) : wd b (t + 16) = NX (wd b t) (wd b (t + 1)) (wd b (t + 9)) (wd b (t + 14)) := by
  rw [← wd_of (n := t + 17) (by omega) (by omega)]
  rw [show t + 17 = (t + 16) + 1 from rfl, wN, wN_last, if_neg (by omega)]
  unfold nextW NX
  rw [show t + 16 - 15 = t + 1 by omega, show t + 16 - 2 = t + 14 by omega, show t + 16 - 16 = t by omega, show t + 16 - 7 = t + 9 by omega]
  rw [wd_of (by omega) (by omega), wd_of (by omega) (by omega), wd_of (by omega) (by omega), wd_of (by omega) (by omega)]
theorem wd_first (b : List UInt8) (t : Nat) (h : t < 16) : wd b t = word4 (b.getD (4 * t) 0) (b.getD (4 * t + 1) 0) (b.getD (4 * t + 2) 0) (b.getD (4 * t + 3) 0) := by
  rw [← wd_of (n := t + 1) (by omega) (by omega), wN, wN_last, if_pos h]
/-- The sixteen words that the rounds hold. -/
def win (b : List UInt8) (t : Nat) : List UInt32 := (List.range 16).map fun i => wd b (t + i)
theorem win_get (b : List UInt8) (t i : Nat) (h : i < 16) : (win b t).getD i 0 = wd b (t + i) := by
  unfold win
  rw [List.getD_eq_getElem?_getD, List.getElem?_map, List.getElem?_range h, Option.map_some, Option.getD_some]
theorem map16 {α : Type} (f : Nat → α) : (List.range 16).map f = [f 0, f 1, f 2, f 3, f 4, f 5, f 6, f 7, f 8, f 9, f 10, f 11, f 12, f 13, f 14, f 15] := rfl
theorem win_eq (b : List UInt8) (t : Nat) : win b t = [wd b (t + 0), wd b (t + 1), wd b (t + 2), wd b (t + 3), wd b (t + 4), wd b (t + 5), wd b (t + 6), wd b (t + 7), wd b (t + 8), wd b (t + 9), wd b (t + 10), wd b (t + 11), wd b (t + 12), wd b (t + 13), wd b (t + 14), wd b (t + 15)] := map16 _
theorem win_next (b : List UInt8) (t : Nat) (h : t + 16 < 80) : (win b t).drop 1 ++ [NX ((win b t).getD 0 0) ((win b t).getD 1 0) ((win b t).getD 9 0) ((win b t).getD 14 0)] = win b (t + 1) := by
  have hx := wd_next b t h
  rw [win_get b t 0 (by omega), win_get b t 1 (by omega), win_get b t 9 (by omega), win_get b t 14 (by omega)]
  have e0 : t + 0 = t := rfl
  rw [e0, ← hx, win_eq, win_eq]
  have e : ∀ i, t + 1 + i = t + (i + 1) := fun i => by omega
  simp only [e, List.drop_succ_cons, List.drop_zero, List.cons_append, List.nil_append]
theorem goL_comp (b : List UInt8) (v : List UInt32) : ∀ n t, n + t = 64 → goL (kL.drop t) (compN v (words b) t) (win b t) = compN v (words b) 64
  | 0, t, h => by
    obtain rfl : t = 64 := by omega
    rfl
  | n + 1, t, h => by
    have hk : kL.drop t = kL.getD t 0 :: kL.drop (t + 1) := by
      have hl : t < kL.length := by rw [show kL.length = 64 from rfl]; omega
      rw [List.drop_eq_getElem_cons hl, List.getD_eq_getElem?_getD, List.getElem?_eq_getElem hl]
      rfl
    have h0 := win_get b t 0 (by omega)
    have e0 : t + 0 = t := rfl
    rw [e0] at h0
    rw [hk, goL, win_next b t (by omega), h0]
    have : stepL (compN v (words b) t) (kL.getD t 0) (wd b t) = compN v (words b) (t + 1) := by
      rw [compN]
      unfold words
      rw [wd_of (by omega) (by omega)]
    rw [this]
    exact goL_comp b v n (t + 1) (by omega)
theorem kN_eq : kN = lN kL := by decide +kernel
theorem begN_eq : begN = lN beginL := by decide +kernel
def bN (l : List UInt8) : List Nat := l.map UInt8.toNat
theorem w4_eq (a b c d : UInt8) : w4 a.toNat b.toNat c.toNat d.toNat = (word4 a b c d).toNat := by
  have := a.toNat_lt; have := b.toNat_lt; have := c.toNat_lt; have := d.toNat_lt
  unfold word4
  rw [UInt32.toNat_ofNat']
  show a.toNat * 16777216 + b.toNat * 65536 + c.toNat * 256 + d.toNat = _
  omega
theorem wds_eq : ∀ (n : Nat) (b : List UInt8), b.length = 4 * n → wds (bN b) = (List.range n).map fun t => (word4 (b.getD (4 * t) 0) (b.getD (4 * t + 1) 0) (b.getD (4 * t + 2) 0) (b.getD (4 * t + 3) 0)).toNat
  | 0, b, h => by
    match b, h with
    | [], _ => rfl
  | n + 1, b, h => by
    match b, h with
    | p :: q :: r :: s :: l, h =>
      have hl : l.length = 4 * n := by simp at h; omega
      rw [List.range_succ_eq_map, List.map_cons, List.map_map]
      show w4 p.toNat q.toNat r.toNat s.toNat :: wds (bN l) = _
      rw [w4_eq, wds_eq n l hl]
      congr 1
    | [], h => simp at h
    | [_], h => simp at h; omega
    | [_, _], h => simp at h; omega
    | [_, _, _], h => simp at h; omega
theorem comp_of (a b c d e f g h w0 w1 w2 w3 w4 w5 w6 w7 w8 w9 w10 w11 w12 w13 w14 w15 a' b' c' d' e' f' g' h' : Nat) (hgo : go kN a b c d e f g h w0 w1 w2 w3 w4 w5 w6 w7 w8 w9 w10 w11 w12 w13 w14 w15 = [a', b', c', d', e', f', g', h']) : NSha.comp [a, b, c, d, e, f, g, h] [w0, w1, w2, w3, w4, w5, w6, w7, w8, w9, w10, w11, w12, w13, w14, w15] = [red (Nat.add a a'), red (Nat.add b b'), red (Nat.add c c'), red (Nat.add d d'), red (Nat.add e e'), red (Nat.add f f'), red (Nat.add g g'), red (Nat.add h h')] := by
  unfold NSha.comp
  simp only
  rw [hgo]
theorem add_eq (a b : UInt32) : red (Nat.add a.toNat b.toNat) = (a + b).toNat := by rw [UInt32.toNat_add]; rfl
theorem comp_eq {v : List UInt32} (hv : v.length = 8) {b : List UInt8} (hb : b.length = 64) : NSha.comp (lN v) (wds (bN b)) = lN (addB v b) := by
  have hw : wds (bN b) = lN (win b 0) := by
    rw [wds_eq 16 b (by omega)]
    unfold win lN
    rw [List.map_map]
    refine List.map_congr_left fun t ht => ?_
    have ht' : t < 16 := by simpa using ht
    simp only [Function.comp, Nat.zero_add]
    rw [wd_first b t ht']
  have hg := goL_comp b v 64 0 (by omega)
  obtain ⟨L, hL⟩ : ∃ L, L = win b 0 := ⟨_, rfl⟩
  rw [hw]
  rw [← hL] at hg ⊢
  have hl : L.length = 16 := by rw [hL]; rfl
  clear hw hL
  have hz := compN_length hv (words b) 64
  unfold addB ShaS.comp
  obtain ⟨R, hR⟩ : ∃ R, R = compN v (words b) 64 := ⟨_, rfl⟩
  rw [← hR] at hg hz ⊢
  clear hR
  match v, hv, L, hl, R, hz with
  | [a, b, c, d, e, f, g, h], _, [w0, w1, w2, w3, w4, w5, w6, w7, w8, w9, w10, w11, w12, w13, w14, w15], _, [a', b', c', d', e', f', g', h'], _ =>
    have hgo := go_eq kL a b c d e f g h w0 w1 w2 w3 w4 w5 w6 w7 w8 w9 w10 w11 w12 w13 w14 w15
    rw [show goL kL [a, b, c, d, e, f, g, h] [w0, w1, w2, w3, w4, w5, w6, w7, w8, w9, w10, w11, w12, w13, w14, w15] = [a', b', c', d', e', f', g', h'] from hg, ← kN_eq] at hgo
    simp only [lN, List.map_cons, List.map_nil] at hgo ⊢
    rw [comp_of _ _ _ _ _ _ _ _ _ _ _ _ _ _ _ _ _ _ _ _ _ _ _ _ _ _ _ _ _ _ _ _ hgo]
    simp only [add_eq]
    rfl

/-! ### A text -/
theorem force_eq {α : Type} (r : α) : ∀ l, force l r = r
  | [] => rfl
  | x :: l => by
    show cond (Nat.beq x x) (force l r) (force l r) = r
    rw [force_eq r l]
    cases Nat.beq x x <;> rfl
theorem bN_take (l : List UInt8) (n : Nat) : (bN l).take n = bN (l.take n) := by unfold bN; rw [List.map_take]
theorem bN_drop (l : List UInt8) (n : Nat) : (bN l).drop n = bN (l.drop n) := by unfold bN; rw [List.map_drop]
theorem sumGo_eq : ∀ (m f : Nat) (v : List UInt32) (b : List UInt8), v.length = 8 → b.length = 64 * m → m ≤ f → NSha.sumGo f (lN v) (bN b) = lN (sumB v b)
  | 0, f, v, b, hv, hb, hf => by
    match b, hb with
    | [], _ =>
      rw [sumB_lt (by simp)]
      cases f <;> rfl
  | m + 1, 0, v, b, hv, hb, hf => by omega
  | m + 1, f + 1, v, b, hv, hb, hf => by
    rw [sumB_ge (by omega)]
    have hc := comp_eq hv (b := b.take 64) (by rw [List.length_take]; omega)
    have hr := sumGo_eq m f (addB v (b.take 64)) (b.drop 64) (addB_length hv _) (by rw [List.length_drop]; omega) (by omega)
    obtain ⟨x, r, hx⟩ : ∃ x r, bN b = x :: r := by
      cases b with
      | nil => rw [List.length_nil] at hb; omega
      | cons x r => exact ⟨_, _, rfl⟩
    unfold NSha.sumGo
    rw [hx]
    simp only
    rw [← hx, force_eq, bN_take, bN_drop, hc, hr]
theorem be_eq (x : UInt32) : NSha.be x.toNat = bN (ShaS.be x) := by
  have := x.toNat_lt
  unfold NSha.be ShaS.be bN
  simp only [List.map_cons, List.map_nil, UInt8.toNat_ofNat']
  show [x.toNat / 16777216, x.toNat / 65536 % 256, x.toNat / 256 % 256, x.toNat % 256] = _
  congr 1
  omega
theorem flat_eq : ∀ l : List UInt32, (lN l).flatMap NSha.be = bN (l.flatMap ShaS.be)
  | [] => rfl
  | x :: l => by
    have h := flat_eq l
    simp only [lN, List.map_cons, List.flatMap_cons, bN, List.map_append] at h ⊢
    rw [h]
    congr 1
    exact be_eq x
theorem fill_eq (n : Nat) : NSha.fill n = bN (ShaS.fill n) := by
  unfold NSha.fill ShaS.fill bN
  simp only [List.map_cons, List.map_append, List.map_replicate, List.map_map]
  congr 2
theorem sum_eq (s : List UInt8) : NSha.sum (bN s) = bN (ShaS.sum s) := by
  unfold NSha.sum ShaS.sum
  have h : bN s ++ NSha.fill (bN s).length = bN (pad s) := by
    rw [fill_eq]
    unfold pad bN
    rw [List.map_append, List.length_map]
  have hp := pad_length s
  have hf := fill_length s.length
  have hl : (pad s).length = s.length + (ShaS.fill s.length).length := by unfold pad; rw [List.length_append]
  rw [h, begN_eq, sumGo_eq ((pad s).length / 64) _ _ _ (by rfl) (by omega) (by rw [show (bN s).length = s.length from by unfold bN; rw [List.length_map]]; omega), flat_eq]
theorem mid_eq (s : List UInt8) : NSha.mid (bN s) = bN (ShaS.mid s) := by
  unfold NSha.mid ShaS.mid
  rw [sum_eq, bN_take]

end Go.Proofs.YtdmonfimdinkeaaGreatDoor.NSha
end
