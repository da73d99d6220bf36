/-
  WHAT IS PROVED: contracts and plain laws. Condition: each names its own.
-/
import Derived.Test.YtceiajepcokacaaGreatDoorS0
import Derived.WalkKit
set_option linter.unusedVariables false
set_option linter.unusedSimpArgs false
set_option maxRecDepth 100000
set_option maxHeartbeats 4000000
namespace Go.Proofs.YtceiajepcokacaaGreatDoor
namespace OctetS
def BC : Nat := 281474976710656
def numF : Nat → Nat → List UInt8
 | 0, n => [UInt8.ofNat n]
 | f + 1, n => if n < 128 then [UInt8.ofNat n] else UInt8.ofNat (n % 128 + 128) :: numF f (n / 128)
def num (n : Nat) : List UInt8 := numF 9 n
def val : List UInt8 → Nat
 | [] => 0
 | b :: r => b.toNat % 128 + 128 * val r
def endB : Bool → List UInt8 → Bool
 | _, [] => false
 | first, b :: r => if b.toNat < 128 then r.isEmpty && (first || decide (b.toNat ≠ 0)) else endB false r
theorem Qz : ∀ (l : List UInt8), endB false l = true → 1 ≤ val l
 | [], h => by simp [endB] at h
 | b :: r, h => by
   rw [endB] at h
   split at h
   ·rename_i hb
    simp only [Bool.false_or, Bool.and_eq_true, decide_eq_true_eq] at h
    simp only [val]
    have := h.2
    omega
   ·have := Qz r h
    simp only [val]
    omega
theorem SC : ∀ (l : List UInt8), endB false l = true → endB true l = true
 | [], h => by simp [endB] at h
 | b :: r, h => by
   rw [endB] at h ⊢
   split at h
   ·rename_i hb
    rw [if_pos hb]
    simp only [Bool.false_or, Bool.and_eq_true] at h
    simp [h.1]
   ·rename_i hb
    rw [if_neg hb]
    exact h
theorem Pi (b : UInt8) : UInt8.ofNat b.toNat = b := by simp
theorem Pj : ∀ (f : Nat) (l : List UInt8), l.length ≤ f + 1 → endB true l = true → numF f (val l) = l
 | f, [], _, h => by simp [endB] at h
 | 0, b :: r, hl, h => by
   have hr : r = [] := List.eq_nil_of_length_eq_zero (by simp at hl; simpa using hl)
   subst hr
   rw [endB] at h
   split at h
   ·rename_i hb
    simp [numF, val, Nat.mod_eq_of_lt hb]
   ·simp [endB] at h
 | f + 1, b :: r, hl, h => by
   rw [endB] at h
   split at h
   ·rename_i hb
    have hr : r = [] := by simp only [Bool.and_eq_true] at h; exact List.isEmpty_iff.1 h.1
    subst hr
    simp [numF, val, Nat.mod_eq_of_lt hb, hb]
   ·rename_i hb
    have hp := Qz r h
    have hv : ¬ val (b :: r) < 128 := by simp only [val]; omega
    rw [numF, if_neg hv]
    have hm : val (b :: r) % 128 + 128 = b.toNat := by
       simp only [val]
       have := b.toNat_lt
       omega
    have hd : val (b :: r) / 128 = val r := by simp only [val]; omega
    rw [hm, hd, Pi, Pj f r (by simp at hl; omega) (SC r h)]
theorem U1 {l : List UInt8} (hl : l.length ≤ 10) (h : endB true l = true) : num (val l) = l := Pj 9 l hl h
theorem toNat_ofNat {n : Nat} (h : n < 256) : (UInt8.ofNat n).toNat = n := by
 show n % 256 = n
 omega
theorem Pk : ∀ (f n : Nat) (first : Bool), n < 128 ^ (f + 1) → (first = false → n ≠ 0) → endB first (numF f n) = true ∧ val (numF f n) = n
 | 0, n, first, hn, h0 => by
   have hn' : n < 128 := by simpa using hn
   have ht := toNat_ofNat (n := n) (by omega)
   refine ⟨?_, ?_⟩
   ·rw [numF, endB, ht, if_pos hn']
    cases first
    ·simp [h0 rfl]
    ·simp
   ·simp only [numF, val, ht]
    omega
 | f + 1, n, first, hn, h0 => by
   rw [numF]
   split
   ·rename_i hn'
    have ht := toNat_ofNat (n := n) (by omega)
    refine ⟨?_, ?_⟩
    ·rw [endB, ht, if_pos hn']
     cases first
     ·simp [h0 rfl]
     ·simp
    ·simp only [val, ht]
     omega
   ·rename_i hn'
    have ht := toNat_ofNat (n := n % 128 + 128) (by omega)
    have hd : n / 128 < 128 ^ (f + 1) := by
       rw [Nat.pow_succ] at hn
       exact Nat.div_lt_of_lt_mul (by rw [Nat.mul_comm]; exact hn)
    obtain ⟨h1, h2⟩ := Pk f (n / 128) false hd (fun _ => by omega)
    refine ⟨?_, ?_⟩
    ·rw [endB, ht, if_neg (by omega)]
     exact h1
    ·simp only [val, ht, h2]
     omega
theorem num_end {n : Nat} (h : n < 18446744073709551616) : endB true (num n) = true ∧ val (num n) = n :=
 Pk 9 n true (Nat.lt_of_lt_of_le h (by decide)) (fun h => by cases h)
theorem Fv : ∀ (f n k : Nat), n < 128 ^ k → 0 < k → (numF f n).length ≤ k
 | 0, n, k, _, h => by simp [numF]; omega
 | f + 1, n, k, hn, hk => by
   rw [numF]
   split
   ·simp; omega
   ·rename_i h
    match k, hk with
    | 1, _ => exact absurd (by simpa using hn) h
    | k + 2, _ =>
      have := Fv f (n / 128) (k + 1) (by
        rw [Nat.pow_succ] at hn
        exact Nat.div_lt_of_lt_mul (by rw [Nat.mul_comm]; exact hn)) (by omega)
      simp only [List.length_cons]
      omega
theorem Dj {n : Nat} (h : n ≤ BC) : (num n).length ≤ 7 :=
 Fv 9 n 7 (Nat.lt_of_le_of_lt h (by decide)) (by omega)
theorem CV {n : Nat} (h : n ≤ 8192) : (num n).length ≤ 2 :=
 Fv 9 n 2 (Nat.lt_of_le_of_lt h (by decide)) (by omega)
def getF : Nat → Nat → Nat → List UInt8 → Nat × Nat × Int
 | 0, _, _, _ => (0, 0, 6)
 | _ + 1, _, _, [] => (0, 0, 5)
 | f + 1, i, n, b :: r =>
   if 128 ≤ b.toNat then getF f (i + 1) (n + b.toNat % 128 * 128 ^ i) r
   else if (b.toNat = 0 ∧ 0 < i) ∨ BC < n + b.toNat % 128 * 128 ^ i then (0, 0, 6) else (n + b.toNat % 128 * 128 ^ i, i + 1, 0)
def Ae (s : List UInt8) : Nat × Nat × Int := getF 7 0 0 s
theorem Nu : ∀ (f i n : Nat) (s : List UInt8) (m u : Nat), getF f i n s = (m, u, 0) →
 i < u ∧ u ≤ i + f ∧ u - i ≤ s.length ∧ m = n + 128 ^ i * val (s.take (u - i)) ∧ endB (decide (i = 0)) (s.take (u - i)) = true ∧ m ≤ BC
 | 0, i, n, s, m, u, h => by simp [getF] at h
 | f + 1, i, n, [], m, u, h => by simp [getF] at h
 | f + 1, i, n, b :: r, m, u, h => by
   rw [getF] at h
   split at h
   ·rename_i hb
    obtain ⟨h1, h2, h3, h4, h5, h6⟩ := Nu f (i + 1) _ r m u h
    obtain ⟨k, rfl⟩ : ∃ k, u = i + 1 + k := ⟨u - (i + 1), by omega⟩
    rw [show i + 1 + k - (i + 1) = k by omega] at h3 h4 h5
    rw [show i + 1 + k - i = k + 1 by omega]
    refine ⟨by omega, by omega, by simp; omega, ?_, ?_, h6⟩
    ·rw [h4, List.take_succ_cons, val, Nat.pow_succ, Nat.mul_add, Nat.mul_comm (128 ^ i) (b.toNat % 128), Nat.mul_assoc, Nat.add_assoc]
    ·rw [List.take_succ_cons, endB, if_neg (by omega)]
     simpa using h5
   ·rename_i hb
    split at h
    ·simp at h
    ·rename_i hc
     simp only [Prod.mk.injEq] at h
     obtain ⟨rfl, rfl, _⟩ := h
     rw [show i + 1 - i = 1 by omega]
     refine ⟨by omega, by omega, by simp, ?_, ?_, by omega⟩
     ·simp [val, Nat.mul_comm]
     ·rw [List.take_succ_cons, endB, if_pos (by omega)]
      by_cases h0 : i = 0
      ·simp [h0]
      ·have : ¬ b.toNat = 0 := fun e => hc (.inl ⟨e, by omega⟩)
       simp [h0, this]
theorem Gb : ∀ (f i n : Nat) (l r : List UInt8), l.length ≤ f → endB (decide (i = 0)) l = true → n + 128 ^ i * val l ≤ BC →
 getF f i n (l ++ r) = (n + 128 ^ i * val l, i + l.length, 0)
 | f, i, n, [], r, _, h, _ => by simp [endB] at h
 | 0, i, n, b :: l, r, hl, _, _ => by simp at hl
 | f + 1, i, n, b :: l, r, hl, h, hm => by
   have hv : n + 128 ^ i * val (b :: l) = n + b.toNat % 128 * 128 ^ i + 128 ^ (i + 1) * val l := by
     rw [val, Nat.pow_succ, Nat.mul_add, Nat.mul_comm (128 ^ i) (b.toNat % 128), Nat.mul_assoc, Nat.add_assoc]
   rw [endB] at h
   rw [List.cons_append, getF]
   split at h
   ·rename_i hb
    rw [if_neg (by omega)]
    simp only [Bool.and_eq_true, Bool.or_eq_true, decide_eq_true_eq] at h
    have hl0 : l = [] := List.isEmpty_iff.1 h.1
    subst hl0
    simp only [val, Nat.mul_zero, Nat.add_zero] at hv
    have h2 := h.2
    rw [if_neg (by simp only [val, Nat.mul_zero, Nat.add_zero] at hm; rw [Nat.mul_comm] at hm; omega)]
    simp [val, Nat.mul_comm]
   ·rename_i hb
    rw [if_pos (by omega)]
    rw [Gb f (i + 1) _ l r (by simp at hl; omega) (by simpa using h) (by rw [← hv]; exact hm), hv]
    simp only [List.length_cons]
    rw [show i + 1 + l.length = i + (l.length + 1) by omega]
theorem FQ {n : Nat} (h : n ≤ BC) (r : List UInt8) : Ae (num n ++ r) = (n, (num n).length, 0) := by
 obtain ⟨h1, h2⟩ := num_end (n := n) (Nat.lt_of_le_of_lt h (by decide))
 have := Gb 7 0 0 (num n) r (Dj h) (by simpa using h1) (by rw [h2]; simpa using h)
 rw [Ae, this, h2]
 simp
theorem Co {s : List UInt8} {n u : Nat} (h : Ae s = (n, u, 0)) : 1 ≤ u ∧ u ≤ 7 ∧ u ≤ s.length ∧ num n = s.take u ∧ n ≤ BC := by
 obtain ⟨h1, h2, h3, h4, h5, h6⟩ := Nu 7 0 0 s n u h
 simp only [Nat.sub_zero, Nat.pow_zero, Nat.zero_add, Nat.one_mul] at h3 h4 h5 h2
 refine ⟨h1, h2, h3, ?_, h6⟩
 rw [h4]
 exact U1 (by rw [List.length_take]; omega) (by simpa using h5)
theorem P9 : ∀ (f i n : Nat) (s : List UInt8), (getF f i n s).2.2 = 0 ∨ getF f i n s = (0, 0, 5) ∨ getF f i n s = (0, 0, 6)
 | 0, i, n, s => by simp [getF]
 | f + 1, i, n, [] => by simp [getF]
 | f + 1, i, n, b :: r => by
   rw [getF]
   split
   ·exact P9 f _ _ r
   ·split <;> simp
theorem D9 (s : List UInt8) : (Ae s).2.2 = 0 ∨ Ae s = (0, 0, 5) ∨ Ae s = (0, 0, 6) := P9 7 0 0 s
/-! ### Texts -/
def text (t : List UInt8) : List UInt8 := num t.length ++ t
def Af (s : List UInt8) : List UInt8 × Nat × Int :=
 if (Ae s).2.2 ≠ 0 then ([], 0, (Ae s).2.2)
 else if 8192 < (Ae s).1 then ([], 0, 7)
 else if s.length - (Ae s).2.1 < (Ae s).1 then ([], 0, 5)
 else ((s.drop (Ae s).2.1).take (Ae s).1, (Ae s).2.1 + (Ae s).1, 0)
theorem Gj {s t : List UInt8} {u : Nat} (h : Af s = (t, u, 0)) : 1 ≤ u ∧ u ≤ s.length ∧ text t = s.take u ∧ t.length ≤ 8192 ∧ t.length < u ∧ u ≤ t.length + 7 := by
 unfold Af at h
 split at h
 ·rename_i h0
  simp only [Prod.mk.injEq] at h
  exact absurd h.2.2 h0
 rename_i h0
 split at h
 ·simp at h
 split at h
 ·simp at h
 rename_i h1 h2
 simp only [Prod.mk.injEq] at h
 obtain ⟨rfl, rfl, _⟩ := h
 have h0' : (Ae s).2.2 = 0 := by simpa using h0
 obtain ⟨a, b, c, d, e⟩ := Co (s := s) (n := (Ae s).1) (u := (Ae s).2.1) (by rw [← h0'])
 have hl : ((s.drop (Ae s).2.1).take (Ae s).1).length = (Ae s).1 := by simp; omega
 refine ⟨by omega, by omega, ?_, by omega, by omega, by omega⟩
 rw [text, hl, d, List.take_add]
theorem O1 {t : List UInt8} (h : t.length ≤ 8192) (r : List UInt8) : Af (text t ++ r) = (t, (text t).length, 0) := by
 have hg : Ae (text t ++ r) = (t.length, (num t.length).length, 0) := by
  rw [text, List.append_assoc]
  exact FQ (by unfold BC; omega) _
 unfold Af
 rw [hg]
 simp only [ne_eq, not_true_eq_false, if_false]
 rw [if_neg (by omega), if_neg (by simp [text])]
 simp [text, List.append_assoc, List.drop_left', List.take_left']
theorem getText_why (s : List UInt8) : (Af s).2.2 = 0 ∨ ∃ w, Af s = ([], 0, w) ∧ (w = 5 ∨ w = 6 ∨ w = 7) := by
 unfold Af
 split
 ·rename_i h0
  rcases D9 s with h | h | h
  ·exact absurd h h0
  ·exact .inr ⟨5, by rw [h], .inl rfl⟩
  ·exact .inr ⟨6, by rw [h], .inr (.inl rfl)⟩
 ·split
  ·exact .inr ⟨7, rfl, .inr (.inr rfl)⟩
  ·split
   ·exact .inr ⟨5, rfl, .inl rfl⟩
   ·exact .inl rfl
/-! ### Lists -/
def list (l : List (List UInt8)) : List UInt8 := num l.length ++ l.flatMap text
def Bf : Nat → List UInt8 → List (List UInt8) × Nat × Int
 | 0, _ => ([], 0, 0)
 | n + 1, s =>
   if (Af s).2.2 ≠ 0 then ([], 0, (Af s).2.2)
   else if (Bf n (s.drop (Af s).2.1)).2.2 ≠ 0 then ([], 0, (Bf n (s.drop (Af s).2.1)).2.2)
   else ((Af s).1 :: (Bf n (s.drop (Af s).2.1)).1, (Af s).2.1 + (Bf n (s.drop (Af s).2.1)).2.1, 0)
theorem Ns : ∀ (n : Nat) (s : List UInt8) (l : List (List UInt8)) (u : Nat), Bf n s = (l, u, 0) → l.length = n ∧ u ≤ s.length ∧ l.flatMap text = s.take u ∧ ∀ t ∈ l, t.length ≤ 8192
 | 0, s, l, u, h => by
   simp only [Bf, Prod.mk.injEq] at h
   obtain ⟨rfl, rfl, _⟩ := h
   simp
 | n + 1, s, l, u, h => by
   rw [Bf] at h
   split at h
   ·rename_i h0
    simp only [Prod.mk.injEq] at h
    exact absurd h.2.2 h0
   rename_i h0
   split at h
   ·rename_i h1
    simp only [Prod.mk.injEq] at h
    exact absurd h.2.2 h1
   rename_i h1
   simp only [Prod.mk.injEq] at h
   obtain ⟨rfl, rfl, _⟩ := h
   have h0' : (Af s).2.2 = 0 := by simpa using h0
   have h1' : (Bf n (s.drop (Af s).2.1)).2.2 = 0 := by simpa using h1
   obtain ⟨_, a2, a3, a4, _, _⟩ := Gj (s := s) (t := (Af s).1) (u := (Af s).2.1) (by rw [← h0'])
   obtain ⟨b1, b2, b3, b4⟩ := Ns n (s.drop (Af s).2.1) (Bf n (s.drop (Af s).2.1)).1 (Bf n (s.drop (Af s).2.1)).2.1 (by rw [← h1'])
   refine ⟨by simp [b1], ?_, ?_, ?_⟩
   ·rw [List.length_drop] at b2
    omega
   ·rw [List.flatMap_cons, a3, b3, List.take_add]
   ·intro t ht
    rcases List.mem_cons.1 ht with rfl | ht
    ·exact a4
    ·exact b4 t ht
theorem Nt : ∀ (l : List (List UInt8)) (r : List UInt8), (∀ t ∈ l, t.length ≤ 8192) → Bf l.length (l.flatMap text ++ r) = (l, (l.flatMap text).length, 0)
 | [], r, _ => by simp [Bf]
 | t :: l, r, h => by
   have ht := O1 (h t (List.mem_cons_self ..)) (l.flatMap text ++ r)
   have hl := Nt l r (fun x hx => h x (List.mem_cons_of_mem _ hx))
   rw [List.flatMap_cons, List.append_assoc, List.length_cons, Bf, ht]
   simp only [ne_eq, not_true_eq_false, if_false, List.drop_left', hl]
   simp
def Aw (s : List UInt8) : List (List UInt8) × Nat × Int :=
 if (Ae s).2.2 ≠ 0 then ([], 0, (Ae s).2.2)
 else if 256 < (Ae s).1 then ([], 0, 7)
 else if (Bf (Ae s).1 (s.drop (Ae s).2.1)).2.2 ≠ 0 then ([], 0, (Bf (Ae s).1 (s.drop (Ae s).2.1)).2.2)
 else ((Bf (Ae s).1 (s.drop (Ae s).2.1)).1, (Ae s).2.1 + (Bf (Ae s).1 (s.drop (Ae s).2.1)).2.1, 0)
def all (s : List UInt8) : List (List UInt8) × Int :=
 if (Aw s).2.2 ≠ 0 then ([], (Aw s).2.2) else if (Aw s).2.1 < s.length then ([], 6) else ((Aw s).1, 0)
def fits (l : List (List UInt8)) : Bool := decide (l.length ≤ 256) && l.all fun t => decide (t.length ≤ 8192)
theorem Cq {l : List (List UInt8)} : fits l = true ↔ l.length ≤ 256 ∧ ∀ t ∈ l, t.length ≤ 8192 := by
 simp [fits]
theorem Gl {s : List UInt8} {l : List (List UInt8)} {u : Nat} (h : Aw s = (l, u, 0)) : fits l = true ∧ u ≤ s.length ∧ list l = s.take u := by
 unfold Aw at h
 split at h
 ·rename_i h0
  simp only [Prod.mk.injEq] at h
  exact absurd h.2.2 h0
 rename_i h0
 split at h
 ·simp at h
 rename_i h1
 split at h
 ·rename_i h2
  simp only [Prod.mk.injEq] at h
  exact absurd h.2.2 h2
 rename_i h2
 simp only [Prod.mk.injEq] at h
 obtain ⟨rfl, rfl, _⟩ := h
 have h0' : (Ae s).2.2 = 0 := by simpa using h0
 have h2' : (Bf (Ae s).1 (s.drop (Ae s).2.1)).2.2 = 0 := by simpa using h2
 obtain ⟨_, _, a3, a4, _⟩ := Co (s := s) (n := (Ae s).1) (u := (Ae s).2.1) (by rw [← h0'])
 obtain ⟨b1, b2, b3, b4⟩ := Ns (Ae s).1 (s.drop (Ae s).2.1) (Bf (Ae s).1 (s.drop (Ae s).2.1)).1 (Bf (Ae s).1 (s.drop (Ae s).2.1)).2.1 (by rw [← h2'])
 refine ⟨Cq.2 ⟨by omega, b4⟩, ?_, ?_⟩
 ·rw [List.length_drop] at b2
  omega
 ·rw [list, b1, a4, b3, List.take_add]
theorem O3 {l : List (List UInt8)} (h : fits l = true) (r : List UInt8) : Aw (list l ++ r) = (l, (list l).length, 0) := by
 obtain ⟨h1, h2⟩ := Cq.1 h
 have hg : Ae (list l ++ r) = (l.length, (num l.length).length, 0) := by
  rw [list, List.append_assoc]
  exact FQ (by unfold BC; omega) _
 unfold Aw
 rw [hg]
 simp only [ne_eq, not_true_eq_false, if_false]
 rw [if_neg (by omega)]
 have hd : (list l ++ r).drop (num l.length).length = l.flatMap text ++ r := by
  rw [list, List.append_assoc, List.drop_left']
  rfl
 rw [hd, Nt l r h2]
 simp [list]
theorem O9 {s : List UInt8} {l : List (List UInt8)} (h : all s = (l, 0)) : fits l = true ∧ list l = s := by
 unfold all at h
 split at h
 ·rename_i h0
  simp only [Prod.mk.injEq] at h
  exact absurd h.2 h0
 rename_i h0
 split at h
 ·simp at h
 rename_i h1
 simp only [Prod.mk.injEq] at h
 obtain ⟨rfl, _⟩ := h
 have h0' : (Aw s).2.2 = 0 := by simpa using h0
 obtain ⟨a, b, c⟩ := Gl (s := s) (l := (Aw s).1) (u := (Aw s).2.1) (by rw [← h0'])
 refine ⟨a, ?_⟩
 rw [c, List.take_of_length_le (by omega)]
theorem all_list {l : List (List UInt8)} (h : fits l = true) : all (list l) = (l, 0) := by
 have := O3 h []
 rw [List.append_nil] at this
 unfold all
 rw [this]
 simp
end OctetS
namespace IdentS
def Dh (c : UInt8) : Bool := decide (97 ≤ c.toNat ∧ c.toNat ≤ 122) || decide (48 ≤ c.toNat ∧ c.toNat ≤ 57) || decide (c.toNat = 95) || decide (c.toNat = 45)
def DJ (l : List UInt8) : Bool := l.all Dh && (!l.isEmpty && decide (l.length ≤ 16))
structure Idn where
 kind : Int
 name : List UInt8
 server : Int
def digits (n : Nat) : List UInt8 := if n < 10 then [UInt8.ofNat (48 + n)] else [UInt8.ofNat (48 + n / 10), UInt8.ofNat (48 + n % 10)]
def sign (k : Int) : UInt8 := if k = 2 then 33 else 64
def okB (x : Idn) : Bool := (decide (x.kind = 1) || decide (x.kind = 2)) && (DJ x.name && (decide (0 ≤ x.server) && decide (x.server ≤ 63)))
def textOf (x : Idn) : List UInt8 := sign x.kind :: (x.name ++ 58 :: digits x.server.toNat)
def Has (x : Idn) (s : List UInt8) : Prop := okB x = true ∧ s = textOf x
theorem FM {x : Idn} (h : okB x = true) : (x.kind = 1 ∨ x.kind = 2) ∧ DJ x.name = true ∧ 0 ≤ x.server ∧ x.server ≤ 63 := by
 simp only [okB, Bool.and_eq_true, Bool.or_eq_true, decide_eq_true_eq] at h
 exact ⟨h.1, h.2.1, h.2.2.1, h.2.2.2⟩
theorem letter_ne {c : UInt8} (h : Dh c = true) : c ≠ 58 := by
 intro e
 subst e
 revert h
 decide
theorem ES {l : List UInt8} (h : DJ l = true) : (∀ c ∈ l, Dh c = true) ∧ l ≠ [] ∧ l.length ≤ 16 := by
 simp only [DJ, Bool.and_eq_true, List.all_eq_true, Bool.not_eq_true', decide_eq_true_eq] at h
 refine ⟨h.1, ?_, h.2.2⟩
 intro e
 rw [e] at h
 simp at h
def numOf (l : List UInt8) : Nat := l.foldl (fun n c => 10 * n + (c.toNat - 48)) 0
def kindOf : List UInt8 → Int
 | 64 :: _ => 1
 | 33 :: _ => 2
 | _ => 0
def P6 (s : List UInt8) : Idn := ⟨kindOf s, (s.drop 1).takeWhile (fun c => decide (c ≠ 58)), numOf (((s.drop 1).dropWhile (fun c => decide (c ≠ 58))).drop 1)⟩
def parse (s : List UInt8) : Option Idn := if okB (P6 s) && decide (s = textOf (P6 s)) then some (P6 s) else none
theorem FN : ∀ n : Fin 64, numOf (digits n.val) = n.val := by decide
theorem Np {x : Idn} {s : List UInt8} (h : Has x s) : P6 s = x := by
 obtain ⟨ox, rfl⟩ := h
 obtain ⟨kx, nx, sx0, fE⟩ := FM ox
 have hne : ∀ c ∈ x.name, (fun c : UInt8 => decide (c ≠ 58)) c = true := fun c hc => by simpa using letter_ne ((ES nx).1 c hc)
 have h1 : (x.name ++ 58 :: digits x.server.toNat).takeWhile (fun c => decide (c ≠ 58)) = x.name := by
  rw [List.takeWhile_append_of_pos hne]
  simp
 have h2 : (x.name ++ 58 :: digits x.server.toNat).dropWhile (fun c => decide (c ≠ 58)) = 58 :: digits x.server.toNat := by
  rw [List.dropWhile_append_of_pos hne]
  simp
 have h3 := FN ⟨x.server.toNat, by omega⟩
 simp only at h3
 unfold P6 textOf
 rw [List.drop_succ_cons, List.drop_zero, h1, h2, List.drop_succ_cons, List.drop_zero, h3]
 have hk : kindOf (sign x.kind :: (x.name ++ 58 :: digits x.server.toNat)) = x.kind := by
  rcases kx with h | h <;> rw [h] <;> simp [sign, kindOf]
 rw [hk]
 cases x
 simp only [Idn.mk.injEq, true_and]
 simp only at sx0
 omega
theorem Da {x : Idn} {s : List UInt8} : parse s = some x ↔ Has x s := by
 unfold parse
 constructor
 ·intro h
  split at h
  ·rename_i hc
   simp only [Bool.and_eq_true, decide_eq_true_eq] at hc
   simp only [Option.some.injEq] at h
   subst h
   exact hc
  ·cases h
 ·intro h
  rw [Np h, if_pos]
  simp only [Bool.and_eq_true, decide_eq_true_eq]
  exact h
def BZ (k : Int) (s : List UInt8) : Option Int := (parse s).bind fun x => if x.kind = k then some x.server else none
def PI (s : List UInt8) : Bool := (BZ 1 s).isSome
def DF (s : List UInt8) : Bool := (BZ 2 s).isSome
theorem PL {x : Idn} (h : okB x = true) : (textOf x).length ≤ 20 := by
 obtain ⟨_, nx, _, _⟩ := FM h
 have := (ES nx).2.2
 have hd : ∀ n, (digits n).length ≤ 2 := by intro n; unfold digits; split <;> simp
 have := hd x.server.toNat
 simp only [textOf, List.length_cons, List.length_append]
 omega
theorem IJ {s : List UInt8} {x : Idn} (h : parse s = some x) : s.length ≤ 20 := by
 obtain ⟨h1, rfl⟩ := Da.1 h
 exact PL h1
theorem Fe {s : List UInt8} (h : PI s = true) : s.length ≤ 20 := by
 unfold PI BZ at h
 cases hp : parse s with
 | none => rw [hp] at h; simp at h
 | some x => exact IJ hp
theorem DV {s : List UInt8} (h : DF s = true) : s.length ≤ 20 := by
 unfold DF BZ at h
 cases hp : parse s with
 | none => rw [hp] at h; simp at h
 | some x => exact IJ hp
end IdentS
namespace EventS
open OctetS IdentS
structure Ev where
 room : List UInt8
 sender : List UInt8
 kind : Int
 key : List UInt8
 body : List UInt8
 nonce : Int
def Eh : Nat → List UInt8
 | 1 => [99, 114, 101, 97, 116, 101]
 | 2 => [109, 101, 109, 98, 101, 114]
 | 3 => [112, 111, 119, 101, 114]
 | 4 => [114, 117, 108, 101]
 | 5 => [110, 97, 109, 101]
 | 6 => [109, 101, 115, 115, 97, 103, 101]
 | 7 => [114, 101, 100, 97, 99, 116]
 | 8 => [104, 97, 110, 100, 111, 118, 101, 114]
 | _ => []
def word (k : Int) : List UInt8 := Eh k.toNat
def known (k : Int) : Bool := decide (0 < k) && decide (k < 9)
def Ya (s : List UInt8) : Int :=
 if Eh 1 = s then 1 else if Eh 2 = s then 2 else if Eh 3 = s then 3 else if Eh 4 = s then 4 else if Eh 5 = s then 5 else if Eh 6 = s then 6 else if Eh 7 = s then 7 else if Eh 8 = s then 8 else 0
theorem NQ (k : Int) : (word k).length ≤ 8 := by
 unfold word Eh
 split <;> simp
def XL (e : Ev) : Bool := if e.kind = 2 then PI e.key else decide (e.key = [])
def BD (e : Ev) : Bool :=
 DF e.room && (PI e.sender && (known e.kind && (XL e && (decide (e.body.length ≤ 512) && (decide (0 ≤ e.nonce) && decide (e.nonce ≤ 1099511627776))))))
structure Right (e : Ev) : Prop where
 room : DF e.room = true
 sender : PI e.sender = true
 kind : known e.kind = true
 key : XL e = true
 body : e.body.length ≤ 512
 nonce0 : 0 ≤ e.nonce
 nonce1 : e.nonce ≤ 1099511627776
def parts (e : Ev) : List (List UInt8) := [e.room, e.sender, word e.kind, e.key, e.body, num e.nonce.toNat]
def bytes (e : Ev) : List UInt8 := list (parts e)
theorem Right.Nl {e : Ev} (h : Right e) : e.key.length ≤ 20 := by
 have := h.key
 unfold XL at this
 split at this
 ·exact Fe this
 ·simp only [decide_eq_true_eq] at this
  rw [this]
  simp
theorem Right.Dj {e : Ev} (h : Right e) : (num e.nonce.toNat).length ≤ 7 := OctetS.Dj (by have := h.nonce1; have := h.nonce0; unfold BC; omega)
theorem Right.fits {e : Ev} (h : Right e) : fits (parts e) = true := by
 rw [Cq]
 refine ⟨by simp [parts], fun t ht => ?_⟩
 have h1 := DV h.room
 have h2 := Fe h.sender
 have h3 := NQ e.kind
 have h4 := h.Nl
 have h5 := h.body
 have h6 := h.Dj
 simp only [parts, List.mem_cons, List.not_mem_nil, or_false] at ht
 rcases ht with rfl | rfl | rfl | rfl | rfl | rfl <;> omega
theorem GG {t : List UInt8} {n : Nat} (h : t.length ≤ n) (hn : n ≤ 8192) : (text t).length ≤ n + 2 := by
 have := CV (n := t.length) (by omega)
 simp only [text, List.length_append]
 omega
theorem Right.length {e : Ev} (h : Right e) : (bytes e).length ≤ 600 + 20 := by
 have h1 := GG (DV h.room) (by omega)
 have h2 := GG (Fe h.sender) (by omega)
 have h3 := GG (NQ e.kind) (by omega)
 have h4 := GG h.Nl (by omega)
 have h5 := GG h.body (by omega)
 have h6 := GG h.Dj (by omega)
 have h7 : (num (parts e).length).length ≤ 2 := CV (by simp [parts])
 simp only [bytes, list, List.length_append, parts, List.flatMap_cons, List.flatMap_nil, List.length_nil] at h7 ⊢
 omega
def RH (l : List (List UInt8)) : Ev := ⟨l.getD 0 [], l.getD 1 [], Ya (l.getD 2 []), l.getD 3 [], l.getD 4 [], ((Ae (l.getD 5 [])).1 : Nat)⟩
def Wv (l : List (List UInt8)) : Bool := decide (l.length = 6) && (decide ((Ae (l.getD 5 [])).2.2 = 0) && decide ((l.getD 5 []).length ≤ (Ae (l.getD 5 [])).2.1))
def parse (s : List UInt8) : Option Ev :=
 if (all s).2 = 0 && (Wv (all s).1 && BD (RH (all s).1)) then some (RH (all s).1) else none
end EventS
namespace ShaS
def rotr (x : UInt32) (n : Nat) : UInt32 := (x >>> UInt32.ofNat n) ||| (x <<< UInt32.ofNat (32 - n))
def kL : List UInt32 := [
 0x428a2f98, 0x71374491, 0xb5c0fbcf, 0xe9b5dba5, 0x3956c25b, 0x59f111f1, 0x923f82a4, 0xab1c5ed5,
 0xd807aa98, 0x12835b01, 0x243185be, 0x550c7dc3, 0x72be5d74, 0x80deb1fe, 0x9bdc06a7, 0xc19bf174,
 0xe49b69c1, 0xefbe4786, 0x0fc19dc6, 0x240ca1cc, 0x2de92c6f, 0x4a7484aa, 0x5cb0a9dc, 0x76f988da,
 0x983e5152, 0xa831c66d, 0xb00327c8, 0xbf597fc7, 0xc6e00bf3, 0xd5a79147, 0x06ca6351, 0x14292967,
 0x27b70a85, 0x2e1b2138, 0x4d2c6dfc, 0x53380d13, 0x650a7354, 0x766a0abb, 0x81c2c92e, 0x92722c85,
 0xa2bfe8a1, 0xa81a664b, 0xc24b8b70, 0xc76c51a3, 0xd192e819, 0xd6990624, 0xf40e3585, 0x106aa070,
 0x19a4c116, 0x1e376c08, 0x2748774c, 0x34b0bcb5, 0x391c0cb3, 0x4ed8aa4a, 0x5b9cca4f, 0x682e6ff3,
 0x748f82ee, 0x78a5636f, 0x84c87814, 0x8cc70208, 0x90befffa, 0xa4506ceb, 0xbef9a3f7, 0xc67178f2]
def Bz : List UInt32 := [0x6a09e667, 0xbb67ae85, 0x3c6ef372, 0xa54ff53a, 0x510e527f, 0x9b05688c, 0x1f83d9ab, 0x5be0cd19]
def Gy (a b c d : UInt8) : UInt32 := UInt32.ofNat (a.toNat * 16777216 + b.toNat * 65536 + c.toNat * 256 + d.toNat)
def nextW (l : List UInt32) (t : Nat) : UInt32 :=
 let x := l.getD (t - 15) 0
 let y := l.getD (t - 2) 0
 l.getD (t - 16) 0 + (rotr x 7 ^^^ rotr x 18 ^^^ x >>> 3) + l.getD (t - 7) 0 + (rotr y 17 ^^^ rotr y 19 ^^^ y >>> 10)
def wN (b : List UInt8) : Nat → List UInt32
 | 0 => []
 | t + 1 => wN b t ++ [if t < 16 then Gy (b.getD (4 * t) 0) (b.getD (4 * t + 1) 0) (b.getD (4 * t + 2) 0) (b.getD (4 * t + 3) 0) else nextW (wN b t) t]
def words (b : List UInt8) : List UInt32 := wN b 64
def Q4 (x : List UInt32) (k w : UInt32) : List UInt32 :=
 match x with
 | [a, b, c, d, e, f, g, h] =>
   let t1 := h + (rotr e 6 ^^^ rotr e 11 ^^^ rotr e 25) + (e &&& f ^^^ ~~~e &&& g) + k + w
   let t2 := (rotr a 2 ^^^ rotr a 13 ^^^ rotr a 22) + (a &&& b ^^^ a &&& c ^^^ b &&& c)
   [t1 + t2, a, b, c, d + t1, e, f, g]
 | _ => []
def Cv (v ws : List UInt32) : Nat → List UInt32
 | 0 => v
 | t + 1 => Q4 (Cv v ws t) (kL.getD t 0) (ws.getD t 0)
def comp (v : List UInt32) (ws : List UInt32) : List UInt32 := Cv v ws 64
def addB (v : List UInt32) (b : List UInt8) : List UInt32 := List.zipWith (· + ·) v (comp v (words b))
def be (x : UInt32) : List UInt8 := [UInt8.ofNat (x.toNat / 16777216), UInt8.ofNat (x.toNat / 65536), UInt8.ofNat (x.toNat / 256), UInt8.ofNat x.toNat]
def fill (n : Nat) : List UInt8 := 0x80 :: (List.replicate ((119 - n % 64) % 64) 0 ++ (List.range 8).map fun i => UInt8.ofNat (n * 8 / 2 ^ (56 - 8 * i)))
def Fh : Nat → List UInt32 → List UInt8 → List UInt32
 | 0, v, _ => v
 | f + 1, v, b => if b.length < 64 then v else Fh f (addB v (b.take 64)) (b.drop 64)
def Ol (v : List UInt32) (b : List UInt8) : List UInt32 := Fh (b.length / 64 + 1) v b
def pad (s : List UInt8) : List UInt8 := s ++ fill s.length
def sum (s : List UInt8) : List UInt8 := (Ol Bz (pad s)).flatMap be
def mid (s : List UInt8) : List UInt8 := (sum s).take 16
theorem Q0 {v : List UInt32} {b : List UInt8} (h : b.length < 64) : Ol v b = v := by
 unfold Ol
 rw [Fh, if_pos h]
theorem Q3 {v : List UInt32} {b : List UInt8} (h : 64 ≤ b.length) : Ol v b = Ol (addB v (b.take 64)) (b.drop 64) := by
 unfold Ol
 rw [Fh, if_neg (by omega), List.length_drop, show (b.length - 64) / 64 + 1 = b.length / 64 by omega]
theorem BS (b : List UInt8) : ∀ t, (wN b t).length = t
 | 0 => rfl
 | t + 1 => by rw [wN, List.length_append, BS b t]; rfl
theorem Qx (b : List UInt8) : ∀ (t k : Nat), (wN b (t + k)).take t = wN b t
 | t, 0 => by rw [List.take_of_length_le (by rw [BS]; omega)]; rfl
 | t, k + 1 => by
   rw [← Nat.add_assoc, wN, List.take_append_of_le_length (by rw [BS]; omega)]
   exact Qx b t k
theorem DZ (b : List UInt8) : (words b).length = 64 := BS b 64
theorem Om {x : List UInt32} (h : x.length = 8) (k w : UInt32) : (Q4 x k w).length = 8 := by
 match x, h with
 | [a, b, c, d, e, f, g, h], _ => rfl
theorem Br {v : List UInt32} (h : v.length = 8) (ws : List UInt32) : ∀ t, (Cv v ws t).length = 8
 | 0 => h
 | t + 1 => by rw [Cv]; exact Om (Br h ws t) _ _
theorem F7 {v : List UInt32} (h : v.length = 8) (b : List UInt8) : (addB v b).length = 8 := by
 unfold addB comp
 rw [List.length_zipWith, Br h, h]
 rfl
theorem G5 : ∀ (f : Nat) (v : List UInt32) (b : List UInt8), v.length = 8 → (Fh f v b).length = 8
 | 0, v, b, h => h
 | f + 1, v, b, h => by
   rw [Fh]
   split
   ·exact h
   ·exact G5 f _ _ (F7 h _)
theorem PN {v : List UInt32} (h : v.length = 8) (b : List UInt8) : (Ol v b).length = 8 := G5 _ v b h
theorem O7 {v : List UInt32} (h : v.length = 8) : (v.flatMap be).length = 32 := by
 match v, h with
 | [a, b, c, d, e, f, g, h], _ => rfl
theorem Bb (s : List UInt8) : (sum s).length = 32 := O7 (PN rfl _)
theorem Cx (s : List UInt8) : (mid s).length = 16 := by
 unfold mid
 rw [List.length_take, Bb]
 rfl
theorem Ej (n : Nat) : (fill n).length = 9 + (119 - n % 64) % 64 := by
 simp [fill]
 omega
theorem Gh (s : List UInt8) : (pad s).length % 64 = 0 := by
 rw [pad, List.length_append, Ej]
 omega
/-! ### Digits -/
end ShaS
end Go.Proofs.YtceiajepcokacaaGreatDoor
