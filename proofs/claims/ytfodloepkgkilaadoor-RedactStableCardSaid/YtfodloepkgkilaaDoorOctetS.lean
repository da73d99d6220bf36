/-
  WHAT IS PROVED: plain laws of numbers, texts and lists as bytes, and of reading them back. No program, no condition beside those that each theorem names.
-/
import Derived.WalkKit
namespace Go.Proofs.YtfodloepkgkilaaDoor.OctetS

def maxNum : Nat := 281474976710656

/-- A number's bytes. -/
def numF : Nat → Nat → List UInt8
  | 0, n => [UInt8.ofNat n]
  | f + 1, n => if n < 128 then [UInt8.ofNat n] else UInt8.ofNat (n % 128 + 128) :: numF f (n / 128)
def num (n : Nat) : List UInt8 := numF 9 n

/-- What bytes come to. -/
def val : List UInt8 → Nat
  | [] => 0
  | b :: r => b.toNat % 128 + 128 * val r

/-- Bytes are those of a number: 'first': no byte lies ahead of them. -/
def endB : Bool → List UInt8 → Bool
  | _, [] => false
  | first, b :: r => if b.toNat < 128 then r.isEmpty && (first || decide (b.toNat ≠ 0)) else endB false r

theorem val_pos : ∀ (l : List UInt8), endB false l = true → 1 ≤ val l
  | [], h => by simp [endB] at h
  | b :: r, h => by
    rw [endB] at h
    split at h
    · rename_i hb
      simp only [Bool.false_or, Bool.and_eq_true, decide_eq_true_eq] at h
      simp only [val]
      have := h.2
      omega
    · have := val_pos r h
      simp only [val]
      omega

theorem endB_mono : ∀ (l : List UInt8), endB false l = true → endB true l = true
  | [], h => by simp [endB] at h
  | b :: r, h => by
    rw [endB] at h ⊢
    split at h
    · rename_i hb
      rw [if_pos hb]
      simp only [Bool.false_or, Bool.and_eq_true] at h
      simp [h.1]
    · rename_i hb
      rw [if_neg hb]
      exact h

theorem ofNat_small (b : UInt8) : UInt8.ofNat b.toNat = b := by simp

theorem numF_val : ∀ (f : Nat) (l : List UInt8), l.length ≤ f + 1 → endB true l = true → numF f (val l) = l
  | f, [], _, h => by simp [endB] at h
  | 0, b :: r, hl, h => by
    have hr : r = [] := List.eq_nil_of_length_eq_zero (by simp at hl; simpa using hl)
    subst hr
    rw [endB] at h
    split at h
    · rename_i hb
      simp [numF, val, Nat.mod_eq_of_lt hb]
    · simp [endB] at h
  | f + 1, b :: r, hl, h => by
    rw [endB] at h
    split at h
    · rename_i hb
      have hr : r = [] := by simp only [Bool.and_eq_true] at h; exact List.isEmpty_iff.1 h.1
      subst hr
      simp [numF, val, Nat.mod_eq_of_lt hb, hb]
    · rename_i hb
      have hp := val_pos r h
      have hv : ¬ val (b :: r) < 128 := by simp only [val]; omega
      rw [numF, if_neg hv]
      have hm : val (b :: r) % 128 + 128 = b.toNat := by
        simp only [val]
        have := b.toNat_lt
        omega
      have hd : val (b :: r) / 128 = val r := by simp only [val]; omega
      rw [hm, hd, ofNat_small, numF_val f r (by simp at hl; omega) (endB_mono r h)]

theorem num_val {l : List UInt8} (hl : l.length ≤ 10) (h : endB true l = true) : num (val l) = l := numF_val 9 l hl h

theorem toNat_ofNat {n : Nat} (h : n < 256) : (UInt8.ofNat n).toNat = n := by
  show n % 256 = n
  omega

theorem numF_end : ∀ (f n : Nat) (first : Bool), n < 128 ^ (f + 1) → (first = false → n ≠ 0) → endB first (numF f n) = true ∧ val (numF f n) = n
  | 0, n, first, hn, h0 => by
    have hn' : n < 128 := by simpa using hn
    have ht := toNat_ofNat (n := n) (by omega)
    refine ⟨?_, ?_⟩
    · rw [numF, endB, ht, if_pos hn']
      cases first
      · simp [h0 rfl]
      · simp
    · simp only [numF, val, ht]
      omega
  | f + 1, n, first, hn, h0 => by
    rw [numF]
    split
    · rename_i hn'
      have ht := toNat_ofNat (n := n) (by omega)
      refine ⟨?_, ?_⟩
      · rw [endB, ht, if_pos hn']
        cases first
        · simp [h0 rfl]
        · simp
      · simp only [val, ht]
        omega
    · rename_i hn'
      have ht := toNat_ofNat (n := n % 128 + 128) (by omega)
      have hd : n / 128 < 128 ^ (f + 1) := by
        rw [Nat.pow_succ] at hn
        exact Nat.div_lt_of_lt_mul (by rw [Nat.mul_comm]; exact hn)
      obtain ⟨h1, h2⟩ := numF_end f (n / 128) false hd (fun _ => by omega)
      refine ⟨?_, ?_⟩
      · rw [endB, ht, if_neg (by omega)]
        exact h1
      · simp only [val, ht, h2]
        omega

theorem num_end {n : Nat} (h : n < 18446744073709551616) : endB true (num n) = true ∧ val (num n) = n :=
  numF_end 9 n true (Nat.lt_of_lt_of_le h (by decide)) (fun h => by cases h)

theorem numF_length : ∀ (f n k : Nat), n < 128 ^ k → 0 < k → (numF f n).length ≤ k
  | 0, n, k, _, h => by simp [numF]; omega
  | f + 1, n, k, hn, hk => by
    rw [numF]
    split
    · simp; omega
    · rename_i h
      match k, hk with
      | 1, _ => exact absurd (by simpa using hn) h
      | k + 2, _ =>
        have := numF_length f (n / 128) (k + 1) (by
          rw [Nat.pow_succ] at hn
          exact Nat.div_lt_of_lt_mul (by rw [Nat.mul_comm]; exact hn)) (by omega)
        simp only [List.length_cons]
        omega
theorem num_length {n : Nat} (h : n ≤ maxNum) : (num n).length ≤ 7 :=
  numF_length 9 n 7 (Nat.lt_of_le_of_lt h (by decide)) (by omega)
theorem num_length2 {n : Nat} (h : n ≤ 8192) : (num n).length ≤ 2 :=
  numF_length 9 n 2 (Nat.lt_of_le_of_lt h (by decide)) (by omega)
theorem num_ne (n : Nat) : num n ≠ [] := by
  unfold num
  rw [numF]
  split <;> simp

/-- The number that bytes begin with, how many bytes it has, and why there is none. -/
def getF : Nat → Nat → Nat → List UInt8 → Nat × Nat × Int
  | 0, _, _, _ => (0, 0, 6)
  | _ + 1, _, _, [] => (0, 0, 5)
  | f + 1, i, n, b :: r =>
    if 128 ≤ b.toNat then getF f (i + 1) (n + b.toNat % 128 * 128 ^ i) r
    else if (b.toNat = 0 ∧ 0 < i) ∨ maxNum < n + b.toNat % 128 * 128 ^ i then (0, 0, 6) else (n + b.toNat % 128 * 128 ^ i, i + 1, 0)
def getNum (s : List UInt8) : Nat × Nat × Int := getF 7 0 0 s

theorem getF_sound : ∀ (f i n : Nat) (s : List UInt8) (m u : Nat), getF f i n s = (m, u, 0) →
    i < u ∧ u ≤ i + f ∧ u - i ≤ s.length ∧ m = n + 128 ^ i * val (s.take (u - i)) ∧ endB (decide (i = 0)) (s.take (u - i)) = true ∧ m ≤ maxNum
  | 0, i, n, s, m, u, h => by simp [getF] at h
  | f + 1, i, n, [], m, u, h => by simp [getF] at h
  | f + 1, i, n, b :: r, m, u, h => by
    rw [getF] at h
    split at h
    · rename_i hb
      obtain ⟨h1, h2, h3, h4, h5, h6⟩ := getF_sound f (i + 1) _ r m u h
      obtain ⟨k, rfl⟩ : ∃ k, u = i + 1 + k := ⟨u - (i + 1), by omega⟩
      rw [show i + 1 + k - (i + 1) = k by omega] at h3 h4 h5
      rw [show i + 1 + k - i = k + 1 by omega]
      refine ⟨by omega, by omega, by simp; omega, ?_, ?_, h6⟩
      · rw [h4, List.take_succ_cons, val, Nat.pow_succ, Nat.mul_add, Nat.mul_comm (128 ^ i) (b.toNat % 128), Nat.mul_assoc, Nat.add_assoc]
      · rw [List.take_succ_cons, endB, if_neg (by omega)]
        simpa using h5
    · rename_i hb
      split at h
      · simp at h
      · rename_i hc
        simp only [Prod.mk.injEq] at h
        obtain ⟨rfl, rfl, _⟩ := h
        rw [show i + 1 - i = 1 by omega]
        refine ⟨by omega, by omega, by simp, ?_, ?_, by omega⟩
        · simp [val, Nat.mul_comm]
        · rw [List.take_succ_cons, endB, if_pos (by omega)]
          by_cases h0 : i = 0
          · simp [h0]
          · have : ¬ b.toNat = 0 := fun e => hc (.inl ⟨e, by omega⟩)
            simp [h0, this]

theorem getF_complete : ∀ (f i n : Nat) (l r : List UInt8), l.length ≤ f → endB (decide (i = 0)) l = true → n + 128 ^ i * val l ≤ maxNum →
    getF f i n (l ++ r) = (n + 128 ^ i * val l, i + l.length, 0)
  | f, i, n, [], r, _, h, _ => by simp [endB] at h
  | 0, i, n, b :: l, r, hl, _, _ => by simp at hl
  | f + 1, i, n, b :: l, r, hl, h, hm => by
    have hv : n + 128 ^ i * val (b :: l) = n + b.toNat % 128 * 128 ^ i + 128 ^ (i + 1) * val l := by
      rw [val, Nat.pow_succ, Nat.mul_add, Nat.mul_comm (128 ^ i) (b.toNat % 128), Nat.mul_assoc, Nat.add_assoc]
    rw [endB] at h
    rw [List.cons_append, getF]
    split at h
    · rename_i hb
      rw [if_neg (by omega)]
      simp only [Bool.and_eq_true, Bool.or_eq_true, decide_eq_true_eq] at h
      have hl0 : l = [] := List.isEmpty_iff.1 h.1
      subst hl0
      simp only [val, Nat.mul_zero, Nat.add_zero] at hv
      have h2 := h.2
      rw [if_neg (by simp only [val, Nat.mul_zero, Nat.add_zero] at hm; rw [Nat.mul_comm] at hm; omega)]
      simp [val, Nat.mul_comm]
    · rename_i hb
      rw [if_pos (by omega)]
      rw [getF_complete f (i + 1) _ l r (by simp at hl; omega) (by simpa using h) (by rw [← hv]; exact hm), hv]
      simp only [List.length_cons]
      rw [show i + 1 + l.length = i + (l.length + 1) by omega]

theorem getNum_num {n : Nat} (h : n ≤ maxNum) (r : List UInt8) : getNum (num n ++ r) = (n, (num n).length, 0) := by
  obtain ⟨h1, h2⟩ := num_end (n := n) (Nat.lt_of_le_of_lt h (by decide))
  have := getF_complete 7 0 0 (num n) r (num_length h) (by simpa using h1) (by rw [h2]; simpa using h)
  rw [getNum, this, h2]
  simp
theorem getNum_ok {s : List UInt8} {n u : Nat} (h : getNum s = (n, u, 0)) : 1 ≤ u ∧ u ≤ 7 ∧ u ≤ s.length ∧ num n = s.take u ∧ n ≤ maxNum := by
  obtain ⟨h1, h2, h3, h4, h5, h6⟩ := getF_sound 7 0 0 s n u h
  simp only [Nat.sub_zero, Nat.pow_zero, Nat.zero_add, Nat.one_mul] at h3 h4 h5 h2
  refine ⟨h1, h2, h3, ?_, h6⟩
  rw [h4]
  exact num_val (by rw [List.length_take]; omega) (by simpa using h5)
/-- Why there is none: one of two. -/
theorem getF_why : ∀ (f i n : Nat) (s : List UInt8), (getF f i n s).2.2 = 0 ∨ getF f i n s = (0, 0, 5) ∨ getF f i n s = (0, 0, 6)
  | 0, i, n, s => by simp [getF]
  | f + 1, i, n, [] => by simp [getF]
  | f + 1, i, n, b :: r => by
    rw [getF]
    split
    · exact getF_why f _ _ r
    · split <;> simp
theorem getNum_why (s : List UInt8) : (getNum s).2.2 = 0 ∨ getNum s = (0, 0, 5) ∨ getNum s = (0, 0, 6) := getF_why 7 0 0 s

/-! ### Texts -/
def text (t : List UInt8) : List UInt8 := num t.length ++ t
def getText (s : List UInt8) : List UInt8 × Nat × Int :=
  if (getNum s).2.2 ≠ 0 then ([], 0, (getNum s).2.2)
  else if 8192 < (getNum s).1 then ([], 0, 7)
  else if s.length - (getNum s).2.1 < (getNum s).1 then ([], 0, 5)
  else ((s.drop (getNum s).2.1).take (getNum s).1, (getNum s).2.1 + (getNum s).1, 0)

theorem getText_ok {s t : List UInt8} {u : Nat} (h : getText s = (t, u, 0)) : 1 ≤ u ∧ u ≤ s.length ∧ text t = s.take u ∧ t.length ≤ 8192 ∧ t.length < u ∧ u ≤ t.length + 7 := by
  unfold getText at h
  split at h
  · rename_i h0
    simp only [Prod.mk.injEq] at h
    exact absurd h.2.2 h0
  rename_i h0
  split at h
  · simp at h
  split at h
  · simp at h
  rename_i h1 h2
  simp only [Prod.mk.injEq] at h
  obtain ⟨rfl, rfl, _⟩ := h
  have h0' : (getNum s).2.2 = 0 := by simpa using h0
  obtain ⟨a, b, c, d, e⟩ := getNum_ok (s := s) (n := (getNum s).1) (u := (getNum s).2.1) (by rw [← h0'])
  have hl : ((s.drop (getNum s).2.1).take (getNum s).1).length = (getNum s).1 := by simp; omega
  refine ⟨by omega, by omega, ?_, by omega, by omega, by omega⟩
  rw [text, hl, d, List.take_add]

theorem getText_text {t : List UInt8} (h : t.length ≤ 8192) (r : List UInt8) : getText (text t ++ r) = (t, (text t).length, 0) := by
  have hg : getNum (text t ++ r) = (t.length, (num t.length).length, 0) := by
    rw [text, List.append_assoc]
    exact getNum_num (by unfold maxNum; omega) _
  unfold getText
  rw [hg]
  simp only [ne_eq, not_true_eq_false, if_false]
  rw [if_neg (by omega), if_neg (by simp [text])]
  simp [text, List.append_assoc, List.drop_left', List.take_left']

theorem getText_why (s : List UInt8) : (getText s).2.2 = 0 ∨ ∃ w, getText s = ([], 0, w) ∧ (w = 5 ∨ w = 6 ∨ w = 7) := by
  unfold getText
  split
  · rename_i h0
    rcases getNum_why s with h | h | h
    · exact absurd h h0
    · exact .inr ⟨5, by rw [h], .inl rfl⟩
    · exact .inr ⟨6, by rw [h], .inr (.inl rfl)⟩
  · split
    · exact .inr ⟨7, rfl, .inr (.inr rfl)⟩
    · split
      · exact .inr ⟨5, rfl, .inl rfl⟩
      · exact .inl rfl

/-! ### Lists -/
def list (l : List (List UInt8)) : List UInt8 := num l.length ++ l.flatMap text
def getTs : Nat → List UInt8 → List (List UInt8) × Nat × Int
  | 0, _ => ([], 0, 0)
  | n + 1, s =>
    if (getText s).2.2 ≠ 0 then ([], 0, (getText s).2.2)
    else if (getTs n (s.drop (getText s).2.1)).2.2 ≠ 0 then ([], 0, (getTs n (s.drop (getText s).2.1)).2.2)
    else ((getText s).1 :: (getTs n (s.drop (getText s).2.1)).1, (getText s).2.1 + (getTs n (s.drop (getText s).2.1)).2.1, 0)

theorem getTs_ok : ∀ (n : Nat) (s : List UInt8) (l : List (List UInt8)) (u : Nat), getTs n s = (l, u, 0) → l.length = n ∧ u ≤ s.length ∧ l.flatMap text = s.take u ∧ ∀ t ∈ l, t.length ≤ 8192
  | 0, s, l, u, h => by
    simp only [getTs, Prod.mk.injEq] at h
    obtain ⟨rfl, rfl, _⟩ := h
    simp
  | n + 1, s, l, u, h => by
    rw [getTs] at h
    split at h
    · rename_i h0
      simp only [Prod.mk.injEq] at h
      exact absurd h.2.2 h0
    rename_i h0
    split at h
    · rename_i h1
      simp only [Prod.mk.injEq] at h
      exact absurd h.2.2 h1
    rename_i h1
    simp only [Prod.mk.injEq] at h
    obtain ⟨rfl, rfl, _⟩ := h
    have h0' : (getText s).2.2 = 0 := by simpa using h0
    have h1' : (getTs n (s.drop (getText s).2.1)).2.2 = 0 := by simpa using h1
    obtain ⟨_, a2, a3, a4, _, _⟩ := getText_ok (s := s) (t := (getText s).1) (u := (getText s).2.1) (by rw [← h0'])
    obtain ⟨b1, b2, b3, b4⟩ := getTs_ok n (s.drop (getText s).2.1) (getTs n (s.drop (getText s).2.1)).1 (getTs n (s.drop (getText s).2.1)).2.1 (by rw [← h1'])
    refine ⟨by simp [b1], ?_, ?_, ?_⟩
    · rw [List.length_drop] at b2
      omega
    · rw [List.flatMap_cons, a3, b3, List.take_add]
    · intro t ht
      rcases List.mem_cons.1 ht with rfl | ht
      · exact a4
      · exact b4 t ht

theorem getTs_list : ∀ (l : List (List UInt8)) (r : List UInt8), (∀ t ∈ l, t.length ≤ 8192) → getTs l.length (l.flatMap text ++ r) = (l, (l.flatMap text).length, 0)
  | [], r, _ => by simp [getTs]
  | t :: l, r, h => by
    have ht := getText_text (h t (List.mem_cons_self ..)) (l.flatMap text ++ r)
    have hl := getTs_list l r (fun x hx => h x (List.mem_cons_of_mem _ hx))
    rw [List.flatMap_cons, List.append_assoc, List.length_cons, getTs, ht]
    simp only [ne_eq, not_true_eq_false, if_false, List.drop_left', hl]
    simp

theorem getTs_why : ∀ (n : Nat) (s : List UInt8), (getTs n s).2.2 = 0 ∨ ∃ w, getTs n s = ([], 0, w) ∧ (w = 5 ∨ w = 6 ∨ w = 7)
  | 0, s => by simp [getTs]
  | n + 1, s => by
    rw [getTs]
    split
    · rename_i h0
      rcases getText_why s with h | ⟨w, h, hw⟩
      · exact absurd h h0
      · exact .inr ⟨w, by rw [h], hw⟩
    · split
      · rename_i h1
        rcases getTs_why n (s.drop (getText s).2.1) with h | ⟨w, h, hw⟩
        · exact absurd h h1
        · exact .inr ⟨w, by rw [h], hw⟩
      · exact .inl rfl

def getList (s : List UInt8) : List (List UInt8) × Nat × Int :=
  if (getNum s).2.2 ≠ 0 then ([], 0, (getNum s).2.2)
  else if 256 < (getNum s).1 then ([], 0, 7)
  else if (getTs (getNum s).1 (s.drop (getNum s).2.1)).2.2 ≠ 0 then ([], 0, (getTs (getNum s).1 (s.drop (getNum s).2.1)).2.2)
  else ((getTs (getNum s).1 (s.drop (getNum s).2.1)).1, (getNum s).2.1 + (getTs (getNum s).1 (s.drop (getNum s).2.1)).2.1, 0)
def all (s : List UInt8) : List (List UInt8) × Int :=
  if (getList s).2.2 ≠ 0 then ([], (getList s).2.2) else if (getList s).2.1 < s.length then ([], 6) else ((getList s).1, 0)

/-- A list that has bytes. -/
def fits (l : List (List UInt8)) : Bool := decide (l.length ≤ 256) && l.all fun t => decide (t.length ≤ 8192)
theorem fits_iff {l : List (List UInt8)} : fits l = true ↔ l.length ≤ 256 ∧ ∀ t ∈ l, t.length ≤ 8192 := by
  simp [fits]

theorem getList_ok {s : List UInt8} {l : List (List UInt8)} {u : Nat} (h : getList s = (l, u, 0)) : fits l = true ∧ u ≤ s.length ∧ list l = s.take u := by
  unfold getList at h
  split at h
  · rename_i h0
    simp only [Prod.mk.injEq] at h
    exact absurd h.2.2 h0
  rename_i h0
  split at h
  · simp at h
  rename_i h1
  split at h
  · rename_i h2
    simp only [Prod.mk.injEq] at h
    exact absurd h.2.2 h2
  rename_i h2
  simp only [Prod.mk.injEq] at h
  obtain ⟨rfl, rfl, _⟩ := h
  have h0' : (getNum s).2.2 = 0 := by simpa using h0
  have h2' : (getTs (getNum s).1 (s.drop (getNum s).2.1)).2.2 = 0 := by simpa using h2
  obtain ⟨_, _, a3, a4, _⟩ := getNum_ok (s := s) (n := (getNum s).1) (u := (getNum s).2.1) (by rw [← h0'])
  obtain ⟨b1, b2, b3, b4⟩ := getTs_ok (getNum s).1 (s.drop (getNum s).2.1) (getTs (getNum s).1 (s.drop (getNum s).2.1)).1 (getTs (getNum s).1 (s.drop (getNum s).2.1)).2.1 (by rw [← h2'])
  refine ⟨fits_iff.2 ⟨by omega, b4⟩, ?_, ?_⟩
  · rw [List.length_drop] at b2
    omega
  · rw [list, b1, a4, b3, List.take_add]

theorem getList_list {l : List (List UInt8)} (h : fits l = true) (r : List UInt8) : getList (list l ++ r) = (l, (list l).length, 0) := by
  obtain ⟨h1, h2⟩ := fits_iff.1 h
  have hg : getNum (list l ++ r) = (l.length, (num l.length).length, 0) := by
    rw [list, List.append_assoc]
    exact getNum_num (by unfold maxNum; omega) _
  unfold getList
  rw [hg]
  simp only [ne_eq, not_true_eq_false, if_false]
  rw [if_neg (by omega)]
  have hd : (list l ++ r).drop (num l.length).length = l.flatMap text ++ r := by
    rw [list, List.append_assoc, List.drop_left']
    rfl
  rw [hd, getTs_list l r h2]
  simp [list]

theorem all_ok {s : List UInt8} {l : List (List UInt8)} (h : all s = (l, 0)) : fits l = true ∧ list l = s := by
  unfold all at h
  split at h
  · rename_i h0
    simp only [Prod.mk.injEq] at h
    exact absurd h.2 h0
  rename_i h0
  split at h
  · simp at h
  rename_i h1
  simp only [Prod.mk.injEq] at h
  obtain ⟨rfl, _⟩ := h
  have h0' : (getList s).2.2 = 0 := by simpa using h0
  obtain ⟨a, b, c⟩ := getList_ok (s := s) (l := (getList s).1) (u := (getList s).2.1) (by rw [← h0'])
  refine ⟨a, ?_⟩
  rw [c, List.take_of_length_le (by omega)]
theorem all_list {l : List (List UInt8)} (h : fits l = true) : all (list l) = (l, 0) := by
  have := getList_list h []
  rw [List.append_nil] at this
  unfold all
  rw [this]
  simp
theorem list_inj {l m : List (List UInt8)} (hl : fits l = true) (hm : fits m = true) (h : list l = list m) : l = m := by
  have a := all_list hl
  have b := all_list hm
  rw [h, b] at a
  simpa using a.symm

end Go.Proofs.YtfodloepkgkilaaDoor.OctetS
